/-  -/
import Derived.Test.YtfphkkaifgnlgaaGreatG5
set_option linter.unusedVariables false
set_option linter.unusedSimpArgs false
section
namespace Go.Wk.Lf
open Go.V Go.Proofs
noncomputable section
def catalog_Twin.k3 (x0 : Catalog) (r6 : (List Vol)) (l17 : List Snap) (l19 : List Chunk) (l21 : List Exp) : Option Catalog :=
  some (Catalog.mk x0.seq l17 l19 l21 r6)
def catalog_Twin.l4 (x0 : Catalog) (r5 : (List Exp)) (r6 : (List Vol)) (l17 : List Snap) (l19 : List Chunk) (rec26 : (Int × (List Exp)) → Option Catalog) : (Int × (List Exp)) → Option Catalog
  | (i24, l25) =>
    if decide (i24 < (r5.length : Int)) then
      bd (ix l25 i24) fun x28 =>
      bd (slices_Clone_api_Loc_api_Loc x28.locs) fun r30 =>
      rec26 (wr (i24 + 1), (l25.set i24.toNat (Exp.mk x28.seq x28.of r30)))
    else
      catalog_Twin.k3 x0 r6 l17 l19 l25
def catalog_Twin.k2 (x0 : Catalog) (r5 : (List Exp)) (r6 : (List Vol)) (l17 : List Snap) (l19 : List Chunk) : Option Catalog :=
  loop (catalog_Twin.l4 x0 r5 r6 l17 l19) (0, r5)
def catalog_Twin.l5 (x0 : Catalog) (r4 : (List Chunk)) (r5 : (List Exp)) (r6 : (List Vol)) (l17 : List Snap) (rec39 : (Int × (List Chunk)) → Option Catalog) : (Int × (List Chunk)) → Option Catalog
  | (i37, l38) =>
    if decide (i37 < (r4.length : Int)) then
      bd (ix l38 i37) fun x41 =>
      bd (slices_Clone_byte_byte x41.data) fun r44 =>
      bd (slices_Clone_api_Loc_api_Loc x41.locs) fun r45 =>
      rec39 (wr (i37 + 1), ((l38.set i37.toNat (Chunk.mk x41.id x41.staged r44 x41.locs)).set i37.toNat (Chunk.mk x41.id x41.staged r44 r45)))
    else
      catalog_Twin.k2 x0 r5 r6 l17 l38
def catalog_Twin.k1 (x0 : Catalog) (r4 : (List Chunk)) (r5 : (List Exp)) (r6 : (List Vol)) (l17 : List Snap) : Option Catalog :=
  loop (catalog_Twin.l5 x0 r4 r5 r6 l17) (0, r4)
def catalog_Twin.l6 (x0 : Catalog) (r3 : (List Snap)) (r4 : (List Chunk)) (r5 : (List Exp)) (r6 : (List Vol)) (rec57 : (Int × (List Snap)) → Option Catalog) : (Int × (List Snap)) → Option Catalog
  | (i55, l56) =>
    if decide (i55 < (r3.length : Int)) then
      bd (ix l56 i55) fun x59 =>
      bd (catalog_TwinMan x59.man) fun r62 =>
      bd (slices_Clone_api_Loc_api_Loc x59.locs) fun r63 =>
      rec57 (wr (i55 + 1), ((l56.set i55.toNat (Snap.mk x59.seq r62 x59.locs)).set i55.toNat (Snap.mk x59.seq r62 r63)))
    else
      catalog_Twin.k1 x0 r4 r5 r6 l56
def catalog_Twin (x0 : Catalog) : Option Catalog :=
  bd (slices_Clone_api_Snap_api_Snap x0.snaps) fun r3 =>
  bd (slices_Clone_api_Chunk_api_Chunk x0.chunks) fun r4 =>
  bd (slices_Clone_api_Exp_api_Exp x0.exps) fun r5 =>
  bd (slices_Clone_api_Vol_api_Vol x0.vols) fun r6 =>
  loop (catalog_Twin.l6 x0 r3 r4 r5 r6) (0, r3)
set_option maxRecDepth 100000 in
set_option maxHeartbeats 2000000 in
theorem catalog_Twin_ok {K : Tb} {F : Frz} {w : Hp} {x0 : Catalog} {r : Catalog} {v0_0 : Val} {v0_1 : Val} {v0_2 : Val} {v0_3 : Val} (hA : Gd F w) (h0_0 : SlF Snap.t F v0_0 x0.snaps) (h0_1 : SlF Chunk.t F v0_1 x0.chunks) (h0_2 : SlF Exp.t F v0_2 x0.exps) (h0_3 : SlF Vol.t F v0_3 x0.vols) (H : catalog_Twin x0 = some r) : Ret Tryz.prog K 48 [.agg (Catalog.cells x0 v0_0 v0_1 v0_2 v0_3)] w fun v w' => ∃ (F' : Frz) (q0_0 : Val) (q0_1 : Val) (q0_2 : Val) (q0_3 : Val), v = .agg (Catalog.cells r q0_0 q0_1 q0_2 q0_3) ∧ St [] w F F' [.row Snap.t q0_0 (r.snaps), .row Chunk.t q0_1 (r.chunks), .row Exp.t q0_2 (r.exps), .row Vol.t q0_3 (r.vols)] w' := by
 refine qa1 Tryz.func48 ?_;have hS := St.start hA;dsimp only [catalog_Twin] at H;refine qs ?_;refine xm (E_bx (cs := [.i .i64 x0.seq, v0_0, v0_1, v0_2, v0_3]) rfl rfl (by simp only [List.all_cons, List.all_nil, List.all_append, h0_0.ln.one, h0_1.ln.one, h0_2.ln.one, h0_3.ln.one]; rfl) hS) ?_;rintro _ w1 ⟨g1, rfl, hS1⟩;refine xm (E_alc (cs := [.i .i64 0, .sl none 0 (.k 0), .sl none 0 (.k 0), .sl none 0 (.k 0), .sl none 0 (.k 0)]) Ty.zero38 rfl hS1) ?_;rintro _ w2 ⟨g2, rfl, hS2⟩;refine qn ?_;refine C_seq ?_;obtain ⟨r3, hr3, H⟩ := bd_some H;obtain ⟨r4, hr4, H⟩ := bd_some H;obtain ⟨r5, hr5, H⟩ := bd_some H;obtain ⟨r6, hr6, H⟩ := bd_some H;have hb7 := hS2.boxAt 1 rfl;refine C_regionD (G := (F.hold w2 [g1])) [0, 1, 3, 4, 6, 7, 9, 10, 2, 12, 5, 8, 11, 13, 14, 15, 16, 17, 18, 19] rfl Ty.mixed (by kernel_rfl) (HB.agree (HB.cons 1 hb7 hS2 rfl HB.nil) hS2.agree) ?_;refine qf Ty.field38_1 ?_;refine qbq 1 Ty.cell34 hS2 ?_;refine qf Ty.field38_2 ?_;refine qr (O_fld1 Ty.cell35 rfl (hb7.held (HB.cons 1 hb7 hS2 rfl HB.nil) (by simp)) rfl) ?_;refine qf Ty.field38_3 ?_;refine qr (O_fld1 Ty.cell36 rfl (hb7.held (HB.cons 1 hb7 hS2 rfl HB.nil) (by simp)) rfl) ?_;refine qf Ty.field38_4 ?_;refine qr (O_fld1 Ty.cell33 rfl (hb7.held (HB.cons 1 hb7 hS2 rfl HB.nil) (by simp)) rfl) ?_;refine ql (slices_Clone_api_Snap_api_Snap_ok hS2.good h0_0 hr3) ?_;rintro ur3_0 w8 ⟨Fr3, _, rfl, hT8⟩;have hS8 := hS2.call hT8;have ler3 := hT8.ext;refine Nxt.frz (HB.le (HB.cons 2 hb7 hS8 rfl HB.nil) ler3) (HB.agree (HB.cons 2 hb7 hS8 rfl HB.nil) hS8.agree) ?_;refine qf Ty.field38_1 ?_;refine ql (slices_Clone_api_Chunk_api_Chunk_ok hS8.good (h0_1.mono ler3) hr4) ?_;rintro ur4_0 w9 ⟨Fr4, _, rfl, hT9⟩;have hS9 := hS8.call hT9;have ler4 := hT9.ext;refine Nxt.frz (HB.le (HB.cons 3 hb7 hS9 rfl HB.nil) ler4) (HB.agree (HB.cons 3 hb7 hS9 rfl HB.nil) hS9.agree) ?_;refine ql (slices_Clone_api_Exp_api_Exp_ok hS9.good (h0_2.mono (ler3.trans ler4)) hr5) ?_;rintro ur5_0 w10 ⟨Fr5, _, rfl, hT10⟩;have hS10 := hS9.call hT10;have ler5 := hT10.ext;refine Nxt.frz (HB.le (HB.cons 4 hb7 hS10 rfl HB.nil) ler5) (HB.agree (HB.cons 4 hb7 hS10 rfl HB.nil) hS10.agree) ?_;refine ql (slices_Clone_api_Vol_api_Vol_ok hS10.good (h0_3.mono ((ler3.trans ler4).trans ler5)) hr6) ?_;rintro ur6_0 w11 ⟨Fr6, _, rfl, hT11⟩;have hS11 := hS10.call hT11;have ler6 := hT11.ext;refine Nxt.frz (HB.le (HB.cons 5 hb7 hS11 rfl HB.nil) ler6) (HB.agree (HB.cons 5 hb7 hS11 rfl HB.nil) hS11.agree) ?_;refine W_drop (by kernel_rfl) hS11.agree ?_;refine qu (E_bst (c := [ur3_0]) 5 ([.i .i64 x0.seq, ur3_0, v0_1, v0_2, v0_3]) rfl rfl hS11 rfl (hS11.rowLn (k := 3) rfl).cells Ty.size34 (by simp only [List.all_cons, List.all_nil, List.all_append, (hS11.rowLn (k := 3) rfl).one]; rfl) rfl rfl) ?_
 rintro _ w12 hS12;refine Nxt.frz (Frz.le.refl _) hS12.agree ?_;refine qf Ty.field38_2 ?_;refine qu (E_bst (c := [ur4_0]) 5 ([.i .i64 x0.seq, ur3_0, ur4_0, v0_2, v0_3]) rfl rfl hS12 rfl (hS12.rowLn (k := 2) rfl).cells Ty.size35 (by simp only [List.all_cons, List.all_nil, List.all_append, (hS12.rowLn (k := 2) rfl).one]; rfl) rfl rfl) ?_;rintro _ w13 hS13;refine Nxt.frz (Frz.le.refl _) hS13.agree ?_;refine qf Ty.field38_3 ?_;refine qu (E_bst (c := [ur5_0]) 5 ([.i .i64 x0.seq, ur3_0, ur4_0, ur5_0, v0_3]) rfl rfl hS13 rfl (hS13.rowLn (k := 1) rfl).cells Ty.size36 (by simp only [List.all_cons, List.all_nil, List.all_append, (hS13.rowLn (k := 1) rfl).one]; rfl) rfl rfl) ?_;rintro _ w14 hS14;refine Nxt.frz (Frz.le.refl _) hS14.agree ?_;refine qf Ty.field38_4 ?_;refine qu (E_bst (c := [ur6_0]) 5 ([.i .i64 x0.seq, ur3_0, ur4_0, ur5_0, ur6_0]) rfl rfl hS14 rfl (hS14.rowLn (k := 0) rfl).cells Ty.size33 (by simp only [List.all_cons, List.all_nil, List.all_append, (hS14.rowLn (k := 0) rfl).one]; rfl) rfl rfl) ?_;rintro _ w15 hS15;refine Nxt.frz (Frz.le.refl _) hS15.agree ?_;refine qn ?_;refine C_seq_join (fun E wq => ∃ l17 : List Snap, catalog_Twin.k1 x0 r4 r5 r6 l17 = some r ∧ ∃ (F16 : Frz), E = [(1, pl g1 0), (2, pl g2 0)] ∧ Fr6.le F16 ∧ St [] w F F16 [.row Vol.t ur6_0 r6, .row Exp.t ur5_0 r5, .row Chunk.t ur4_0 r4, .row Snap.t ur3_0 l17, .box g2 [.i .i64 0, .sl none 0 (.k 0), .sl none 0 (.k 0), .sl none 0 (.k 0), .sl none 0 (.k 0)], .box g1 [.i .i64 x0.seq, ur3_0, ur4_0, ur5_0, ur6_0]] wq) ?_ ?_
 ·refine qs ?_;refine qf Ty.field38_1 ?_;refine qb 5 Ty.cell34 hS15 ?_;refine qr (O_len Tryz.underlying34 rfl (hS15.rowLn (k := 3) rfl)) ?_;refine qm ?_;refine C_block ?_;refine C_loopM (fun (s : Int × (List Snap)) E wq => ∃ (F54 : Frz), E = [(1, pl g1 0), (2, pl g2 0), (26, .i .i64 (r3.length : Int)), (27, .i .i64 s.1)] ∧ Fr6.le F54 ∧ St [] w F F54 [.row Vol.t ur6_0 r6, .row Exp.t ur5_0 r5, .row Chunk.t ur4_0 r4, .row Snap.t ur3_0 s.2, .box g2 [.i .i64 0, .sl none 0 (.k 0), .sl none 0 (.k 0), .sl none 0 (.k 0), .sl none 0 (.k 0)], .box g1 [.i .i64 x0.seq, ur3_0, ur4_0, ur5_0, ur6_0]] wq) H ?_ ?_
  ·exact ⟨_, ⟨Fr6, rfl, (Frz.le.refl _), hS15⟩, ⟨rfl, rfl, rfl, rfl, trivial⟩⟩
  ·rintro rec57 ⟨i55, l56⟩ E w54 hI H
   try dsimp only at hI
   obtain ⟨F54, rfl, le54, hS54⟩ := hI;dsimp only [catalog_Twin.l6] at H;refine qs ?_;refine qr (O_bin rfl rfl bI_lss) ?_;refine qn ?_;refine C_seq ?_;refine C_cond rfl (fun hc58 => ?_) (fun hc58 => ?_)
   ·rw [if_t hc58] at H;refine qk ?_;refine C_seq ?_;refine C_block ?_;refine qs ?_;refine qc ?_;refine qm ?_;refine C_seq ?_;obtain ⟨x59, hx59, H⟩ := bd_some H;refine qd ?_;refine qf Ty.field38_1 ?_;refine qb 5 Ty.cell34 hS54 ?_;refine qc ?_;obtain ⟨hp61, hy61⟩ := ix_some hx59;obtain ⟨cs61, hr61, he61⟩ := hS54.rowAt (k := 3) rfl hy61;obtain ⟨ue60_0, ue60_1, rfl, hue60_0, hue60_1⟩ := hr61;replace he61 : Elf _ _ 4 _ _ := he61;have hi61 := he61.ixd;refine qi Tryz.underlying34 Ty.size46 hi61 hp61 ?_;refine qm ?_;obtain ⟨r62, hr62, H⟩ := bd_some H;obtain ⟨r63, hr63, H⟩ := bd_some H;have hS64 := hS54.lendL [] (by decide);refine C_regionD [0, 1, 2, 3, 4, 5, 7, 8, 9, 10, 6, 11, 12, 13, 14, 15, 16, 17] rfl Ty.mixed (by kernel_rfl) (HB.agree (hS54.heldHB [] [0, 1, 2, 3, 4, 5] (by decide) hS64) hS64.agree) ?_;refine q3 ?_;refine qr (O_nil rfl hi61) ?_;refine qr (O_fld 1 Ty.field46_1 rfl hi61) ?_;refine qr (O_ldg 1 (Manifest.cells x59.man ue60_0) Ty.agg43 Ty.size43 rfl (he61.held (hS54.heldHB [] [0, 1, 2, 3, 4, 5] (by decide) hS64) (hS54.heldRow (j := 3) (rs := [0, 1, 2, 3, 4, 5]) (by decide) rfl)) (by omega) rfl (Nat.le_of_ble_eq_true rfl)) ?_;refine qc ?_;refine qr (O_nil rfl hi61) ?_;refine qr (O_fld 3 Ty.field46_2 rfl hi61) ?_;refine qr (O_ld1 3 Ty.cell44 rfl (he61.held (hS54.heldHB [] [0, 1, 2, 3, 4, 5] (by decide) hS64) (hS54.heldRow (j := 3) (rs := [0, 1, 2, 3, 4, 5]) (by decide) rfl)) (by omega) rfl) ?_;refine ql (catalog_TwinMan_ok hS64.good hue60_0 hr62) ?_;rintro v65 w65 ⟨Fr62, ur62_0_0, rfl, hfr62_0_0, hT65⟩;have hS65 := hS64.call hT65;have ler62 := hT65.ext;refine Nxt.frz (HB.le (hS54.heldHB [] [0, 1, 2, 3, 4, 5] (by decide) hS65) ler62) (HB.agree (hS54.heldHB [] [0, 1, 2, 3, 4, 5] (by decide) hS65) hS65.agree) ?_;refine ql (slices_Clone_api_Loc_api_Loc_ok hS65.good (hue60_1.mono ler62) hr63) ?_;rintro ur63_0 w66 ⟨Fr63, _, rfl, hT66⟩;have hS66 := hS65.call hT66;have ler63 := hT66.ext;refine Nxt.frz (HB.le (hS54.heldHB [] [0, 1, 2, 3, 4, 5] (by decide) hS66) ler63) (HB.agree (hS54.heldHB [] [0, 1, 2, 3, 4, 5] (by decide) hS66) hS66.agree) ?_;refine qr (O_nil rfl hi61) ?_;refine qr (O_fld 1 Ty.field46_1 rfl hi61) ?_;have hS67 := hS54.backL [] [0, 1, 2, 3, 4, 5] (by decide) (by decide) hS66;refine W_drop (by kernel_rfl) hS67.agree ?_;refine qu (E_put (c := [.s r62.name, ur62_0_0]) 4 (i55.toNat) 1 x59 (Snap.mk x59.seq r62 x59.locs) rfl rfl hS67 rfl (ix_some hx59).2 (by first | rfl | (show _ = _ * 4 + _; omega)) rfl Ty.size43 (by simp only [List.all_cons, List.all_nil, List.all_append, hfr62_0_0.ln.one]; rfl) (Nat.le_of_ble_eq_true rfl) (by rintro cs ⟨a2, a3, rfl, b2, b3⟩; exact ⟨ur62_0_0, a3, rfl, (hfr62_0_0.mono ler63), b3⟩)) ?_
    rintro _ w68 hS68;refine Nxt.frz (Frz.le.refl _) hS68.agree ?_;refine qr (O_nil rfl hi61) ?_;refine qr (O_fld 3 Ty.field46_2 rfl hi61) ?_;obtain ⟨F70, le70, hf70, hS70⟩ := hS68.freezeR 0 [1, 2, 3, 4, 5, 6] rfl (by decide) (by decide);refine W_rg le70 hS70.agree ?_;refine qu (E_put (c := [ur63_0]) 3 (i55.toNat) 3 (Snap.mk x59.seq r62 x59.locs) (Snap.mk x59.seq r62 r63) rfl rfl hS70 rfl (List.getElem?_set_self (by simpa using (List.getElem?_eq_some_iff.1 (ix_some hx59).2).1)) (by first | rfl | (show _ = _ * 4 + _; omega)) hf70.ln.cells Ty.size44 (by simp only [List.all_cons, List.all_nil, List.all_append, hf70.ln.one]; rfl) (Nat.le_of_ble_eq_true rfl) (by rintro cs ⟨a2, a3, rfl, b2, b3⟩; exact ⟨a2, ur63_0, rfl, b2, hf70⟩)) ?_;rintro _ w69 hS69;refine Nxt.frz (Frz.le.refl _) hS69.agree ?_;refine W_nil ?_;refine N_block ?_;refine N_code ?_;refine qd ?_;refine q2 ?_;refine W_nil ?_;exact N_againM (wr (i55 + 1), ((l56.set i55.toNat (Snap.mk x59.seq r62 x59.locs)).set i55.toNat (Snap.mk x59.seq r62 r63))) _ H ⟨F70, rfl, (((le54.trans ler62).trans ler63).trans le70), hS69⟩ ⟨rfl, rfl, rfl, rfl, trivial⟩
   ·rw [if_f hc58] at H;refine C_exit _ rfl ?_;exact N_join _ ⟨l56, H, ⟨F54, rfl, le54, hS54⟩⟩ ⟨rfl, rfl, trivial⟩
 ·rintro E w16 ⟨l17, H, F16, rfl, le16, hS16⟩;dsimp only [catalog_Twin.k1] at H;refine C_seq_join (fun E wq => ∃ l19 : List Chunk, catalog_Twin.k2 x0 r5 r6 l17 l19 = some r ∧ ∃ (F18 : Frz), E = [(1, pl g1 0), (2, pl g2 0)] ∧ F16.le F18 ∧ St [] w F F18 [.row Vol.t ur6_0 r6, .row Exp.t ur5_0 r5, .row Chunk.t ur4_0 l19, .row Snap.t ur3_0 l17, .box g2 [.i .i64 0, .sl none 0 (.k 0), .sl none 0 (.k 0), .sl none 0 (.k 0), .sl none 0 (.k 0)], .box g1 [.i .i64 x0.seq, ur3_0, ur4_0, ur5_0, ur6_0]] wq) ?_ ?_
  ·refine qs ?_;refine qf Ty.field38_2 ?_;refine qb 5 Ty.cell35 hS16 ?_;refine qr (O_len Tryz.underlying35 rfl (hS16.rowLn (k := 2) rfl)) ?_;refine qm ?_;refine C_block ?_;refine C_loopM (fun (s : Int × (List Chunk)) E wq => ∃ (F36 : Frz), E = [(1, pl g1 0), (2, pl g2 0), (53, .i .i64 (r4.length : Int)), (54, .i .i64 s.1)] ∧ F16.le F36 ∧ St [] w F F36 [.row Vol.t ur6_0 r6, .row Exp.t ur5_0 r5, .row Chunk.t ur4_0 s.2, .row Snap.t ur3_0 l17, .box g2 [.i .i64 0, .sl none 0 (.k 0), .sl none 0 (.k 0), .sl none 0 (.k 0), .sl none 0 (.k 0)], .box g1 [.i .i64 x0.seq, ur3_0, ur4_0, ur5_0, ur6_0]] wq) H ?_ ?_
   ·exact ⟨_, ⟨F16, rfl, (Frz.le.refl _), hS16⟩, ⟨rfl, rfl, rfl, rfl, trivial⟩⟩
   ·rintro rec39 ⟨i37, l38⟩ E w36 hI H
    try dsimp only at hI
    obtain ⟨F36, rfl, le36, hS36⟩ := hI;dsimp only [catalog_Twin.l5] at H;refine qs ?_;refine qr (O_bin rfl rfl bI_lss) ?_;refine qn ?_;refine C_seq ?_;refine C_cond rfl (fun hc40 => ?_) (fun hc40 => ?_)
    ·rw [if_t hc40] at H;refine qk ?_;refine C_seq ?_;refine C_block ?_;refine qs ?_;refine qc ?_;refine qm ?_;refine C_seq ?_;obtain ⟨x41, hx41, H⟩ := bd_some H;refine qd ?_;refine qf Ty.field38_2 ?_;refine qb 5 Ty.cell35 hS36 ?_;refine qc ?_;obtain ⟨hp43, hy43⟩ := ix_some hx41;obtain ⟨cs43, hr43, he43⟩ := hS36.rowAt (k := 2) rfl hy43;obtain ⟨ue42_0, ue42_1, rfl, hle42_0, hue42_0, hue42_1⟩ := hr43;replace he43 : Elf _ _ 35 _ _ := he43;have hi43 := he43.ixd;refine qi Tryz.underlying35 Ty.size60 hi43 hp43 ?_;refine qm ?_;obtain ⟨r44, hr44, H⟩ := bd_some H;obtain ⟨r45, hr45, H⟩ := bd_some H;have hS46 := hS36.lendL [] (by decide);refine C_regionD [0, 1, 2, 3, 4, 5, 7, 8, 9, 10, 6, 11, 12, 13, 14, 15, 16, 17] rfl Ty.mixed (by kernel_rfl) (HB.agree (hS36.heldHB [] [0, 1, 2, 3, 4, 5] (by decide) hS46) hS46.agree) ?_;refine q3 ?_;refine qr (O_nil rfl hi43) ?_;refine qr (O_fld 33 Ty.field60_2 rfl hi43) ?_;refine qr (O_ld1 33 Ty.cell47 rfl (he43.held (hS36.heldHB [] [0, 1, 2, 3, 4, 5] (by decide) hS46) (hS36.heldRow (j := 2) (rs := [0, 1, 2, 3, 4, 5]) (by decide) rfl)) (by omega) rfl) ?_;refine qc ?_;refine qr (O_nil rfl hi43) ?_;refine qr (O_fld 34 Ty.field60_3 rfl hi43) ?_;refine qr (O_ld1 34 Ty.cell44 rfl (he43.held (hS36.heldHB [] [0, 1, 2, 3, 4, 5] (by decide) hS46) (hS36.heldRow (j := 2) (rs := [0, 1, 2, 3, 4, 5]) (by decide) rfl)) (by omega) rfl) ?_;refine ql (slices_Clone_byte_byte_ok hS46.good hue42_0 hr44) ?_;rintro ur44_0 w47 ⟨Fr44, _, rfl, hT47⟩;have hS47 := hS46.call hT47;have ler44 := hT47.ext;refine Nxt.frz (HB.le (hS36.heldHB [] [0, 1, 2, 3, 4, 5] (by decide) hS47) ler44) (HB.agree (hS36.heldHB [] [0, 1, 2, 3, 4, 5] (by decide) hS47) hS47.agree) ?_;refine ql (slices_Clone_api_Loc_api_Loc_ok hS47.good (hue42_1.mono ler44) hr45) ?_;rintro ur45_0 w48 ⟨Fr45, _, rfl, hT48⟩;have hS48 := hS47.call hT48;have ler45 := hT48.ext;refine Nxt.frz (HB.le (hS36.heldHB [] [0, 1, 2, 3, 4, 5] (by decide) hS48) ler45) (HB.agree (hS36.heldHB [] [0, 1, 2, 3, 4, 5] (by decide) hS48) hS48.agree) ?_;refine qr (O_nil rfl hi43) ?_;refine qr (O_fld 33 Ty.field60_2 rfl hi43) ?_;have hS49 := hS36.backL [] [0, 1, 2, 3, 4, 5] (by decide) (by decide) hS48;refine W_drop (by kernel_rfl) hS49.agree ?_;obtain ⟨F51, le51, hf51, hS51⟩ := hS49.freezeR 1 [0, 2, 3, 4, 5, 6, 7] rfl (by decide) (by decide);refine W_rg le51 hS51.agree ?_;refine qu (E_put (c := [ur44_0]) 3 (i37.toNat) 33 x41 (Chunk.mk x41.id x41.staged r44 x41.locs) rfl rfl hS51 rfl (ix_some hx41).2 (by first | rfl | (show _ = _ * 35 + _; omega)) hf51.ln.cells Ty.size47 (by simp only [List.all_cons, List.all_nil, List.all_append, hf51.ln.one]; rfl) (Nat.le_of_ble_eq_true rfl) (by rintro cs ⟨a2, a3, rfl, c0, b2, b3⟩; exact ⟨ur44_0, a3, rfl, c0, hf51, b3⟩)) ?_
     rintro _ w50 hS50;refine Nxt.frz (Frz.le.refl _) hS50.agree ?_;refine qr (O_nil rfl hi43) ?_;refine qr (O_fld 34 Ty.field60_3 rfl hi43) ?_;obtain ⟨F53, le53, hf53, hS53⟩ := hS50.freezeR 0 [1, 2, 3, 4, 5, 6] rfl (by decide) (by decide);refine W_rg le53 hS53.agree ?_;refine qu (E_put (c := [ur45_0]) 2 (i37.toNat) 34 (Chunk.mk x41.id x41.staged r44 x41.locs) (Chunk.mk x41.id x41.staged r44 r45) rfl rfl hS53 rfl (List.getElem?_set_self (by simpa using (List.getElem?_eq_some_iff.1 (ix_some hx41).2).1)) (by first | rfl | (show _ = _ * 35 + _; omega)) hf53.ln.cells Ty.size44 (by simp only [List.all_cons, List.all_nil, List.all_append, hf53.ln.one]; rfl) (Nat.le_of_ble_eq_true rfl) (by rintro cs ⟨a2, a3, rfl, c0, b2, b3⟩; exact ⟨a2, ur45_0, rfl, c0, b2, hf53⟩)) ?_;rintro _ w52 hS52;refine Nxt.frz (Frz.le.refl _) hS52.agree ?_;refine W_nil ?_;refine N_block ?_;refine N_code ?_;refine qd ?_;refine q2 ?_;refine W_nil ?_;exact N_againM (wr (i37 + 1), ((l38.set i37.toNat (Chunk.mk x41.id x41.staged r44 x41.locs)).set i37.toNat (Chunk.mk x41.id x41.staged r44 r45))) _ H ⟨F53, rfl, ((((le36.trans ler44).trans ler45).trans le51).trans le53), hS52⟩ ⟨rfl, rfl, rfl, rfl, trivial⟩
    ·rw [if_f hc40] at H;refine C_exit _ rfl ?_;exact N_join _ ⟨l38, H, ⟨F36, rfl, le36, hS36⟩⟩ ⟨rfl, rfl, trivial⟩
  ·rintro E w18 ⟨l19, H, F18, rfl, le18, hS18⟩;dsimp only [catalog_Twin.k2] at H;refine C_seq_join (fun E wq => ∃ l21 : List Exp, catalog_Twin.k3 x0 r6 l17 l19 l21 = some r ∧ ∃ (F20 : Frz), E = [(1, pl g1 0), (2, pl g2 0)] ∧ F18.le F20 ∧ St [] w F F20 [.row Vol.t ur6_0 r6, .row Exp.t ur5_0 l21, .row Chunk.t ur4_0 l19, .row Snap.t ur3_0 l17, .box g2 [.i .i64 0, .sl none 0 (.k 0), .sl none 0 (.k 0), .sl none 0 (.k 0), .sl none 0 (.k 0)], .box g1 [.i .i64 x0.seq, ur3_0, ur4_0, ur5_0, ur6_0]] wq) ?_ ?_
   ·refine qs ?_;refine qf Ty.field38_3 ?_;refine qb 5 Ty.cell36 hS18 ?_;refine qr (O_len Tryz.underlying36 rfl (hS18.rowLn (k := 1) rfl)) ?_;refine qm ?_;refine C_block ?_;refine C_loopM (fun (s : Int × (List Exp)) E wq => ∃ (F23 : Frz), E = [(1, pl g1 0), (2, pl g2 0), (80, .i .i64 (r5.length : Int)), (81, .i .i64 s.1)] ∧ F18.le F23 ∧ St [] w F F23 [.row Vol.t ur6_0 r6, .row Exp.t ur5_0 s.2, .row Chunk.t ur4_0 l19, .row Snap.t ur3_0 l17, .box g2 [.i .i64 0, .sl none 0 (.k 0), .sl none 0 (.k 0), .sl none 0 (.k 0), .sl none 0 (.k 0)], .box g1 [.i .i64 x0.seq, ur3_0, ur4_0, ur5_0, ur6_0]] wq) H ?_ ?_
    ·exact ⟨_, ⟨F18, rfl, (Frz.le.refl _), hS18⟩, ⟨rfl, rfl, rfl, rfl, trivial⟩⟩
    ·rintro rec26 ⟨i24, l25⟩ E w23 hI H
     try dsimp only at hI
     obtain ⟨F23, rfl, le23, hS23⟩ := hI;dsimp only [catalog_Twin.l4] at H;refine qs ?_;refine qr (O_bin rfl rfl bI_lss) ?_;refine qn ?_;refine C_seq ?_;refine C_cond rfl (fun hc27 => ?_) (fun hc27 => ?_)
     ·rw [if_t hc27] at H;refine qk ?_;refine C_seq ?_;refine C_block ?_;refine qs ?_;refine qc ?_;refine qm ?_;obtain ⟨x28, hx28, H⟩ := bd_some H;obtain ⟨r30, hr30, H⟩ := bd_some H;have hb31 := hS23.boxAt 5 rfl;refine C_regionD (G := (F23.hold w23 [g1])) [0, 1, 2, 3, 4, 5, 6, 7, 8, 9, 10, 11, 12] rfl Ty.mixed (by kernel_rfl) (HB.agree (HB.cons 5 hb31 hS23 rfl HB.nil) hS23.agree) ?_;refine qf Ty.field38_3 ?_;refine qr (O_fld1 Ty.cell36 rfl (hb31.held (HB.cons 5 hb31 hS23 rfl HB.nil) (by simp)) rfl) ?_;refine qc ?_;refine qf Ty.field38_3 ?_;refine qbq 5 Ty.cell36 hS23 ?_;refine qc ?_;obtain ⟨hp32, hy32⟩ := ix_some hx28;obtain ⟨cs32, hr32, he32⟩ := hS23.rowAt (k := 1) rfl hy32;obtain ⟨ue29_0, rfl, hue29_0⟩ := hr32;replace he32 : Elf _ _ 3 _ _ := he32;have hi32 := he32.ixd;refine qi Tryz.underlying36 Ty.size55 hi32 hp32 ?_;refine qr (O_fld 2 Ty.field55_2 rfl hi32) ?_;refine qq (O_ld1 2 Ty.cell44 rfl he32 (by omega) rfl) ?_;refine ql (slices_Clone_api_Loc_api_Loc_ok hS23.good hue29_0 hr30) ?_;rintro ur30_0 w33 ⟨Fr30, _, rfl, hT33⟩;have hS33 := hS23.call hT33;have ler30 := hT33.ext;refine Nxt.frz (HB.le (HB.cons 6 hb31 hS33 rfl HB.nil) ler30) (HB.agree (HB.cons 6 hb31 hS33 rfl HB.nil) hS33.agree) ?_;refine qi Tryz.underlying36 Ty.size55 hi32 hp32 ?_;refine qr (O_fld 2 Ty.field55_2 rfl hi32) ?_;obtain ⟨F35, le35, hf35, hS35⟩ := hS33.freezeR 0 [1, 2, 3, 4, 5, 6] rfl (by decide) (by decide);refine W_rg (HB.le (HB.cons 5 hb31 hS35 rfl HB.nil) le35) (HB.agree (HB.cons 5 hb31 hS35 rfl HB.nil) hS35.agree) ?_;refine qu (E_put (c := [ur30_0]) 1 (i24.toNat) 2 x28 (Exp.mk x28.seq x28.of r30) rfl rfl hS35 rfl (ix_some hx28).2 (by first | rfl | (show _ = _ * 3 + _; omega)) hf35.ln.cells Ty.size44 (by simp only [List.all_cons, List.all_nil, List.all_append, hf35.ln.one]; rfl) (Nat.le_of_ble_eq_true rfl) (by rintro cs ⟨a2, rfl, b2⟩; exact ⟨ur30_0, rfl, hf35⟩)) ?_;rintro _ w34 hS34;refine qh 5 hb31 hS34 ?_;refine W_nil ?_;refine N_block ?_;refine N_code ?_;refine qd ?_;refine q2 ?_;refine W_nil ?_;exact N_againM (wr (i24 + 1), (l25.set i24.toNat (Exp.mk x28.seq x28.of r30))) _ H ⟨F35, rfl, ((le23.trans ler30).trans le35), hS34⟩ ⟨rfl, rfl, rfl, rfl, trivial⟩
     ·rw [if_f hc27] at H;refine C_exit _ rfl ?_;exact N_join _ ⟨l25, H, ⟨F23, rfl, le23, hS23⟩⟩ ⟨rfl, rfl, trivial⟩
   ·rintro E w20 ⟨l21, H, F20, rfl, le20, hS20⟩;dsimp only [catalog_Twin.k3] at H;refine qs ?_;refine qr (O_bldg 5 (Catalog.cells (Catalog.mk x0.seq l17 l19 l21 r6) ur3_0 ur4_0 ur5_0 ur6_0) Ty.agg38 Ty.size38 (Nat.zero_lt_succ _) rfl hS20 rfl (fun q u h => sub_at (post := []) rfl h)) ?_;refine um (E_bst (c := [.i .i64 x0.seq, ur3_0, ur4_0, ur5_0, ur6_0]) 4 ([.i .i64 x0.seq, ur3_0, ur4_0, ur5_0, ur6_0]) rfl rfl hS20 rfl rfl Ty.size38 (by simp only [List.all_cons, List.all_nil, List.all_append, (hS20.rowLn (k := 3) rfl).one, (hS20.rowLn (k := 2) rfl).one, (hS20.rowLn (k := 1) rfl).one, (hS20.rowLn (k := 0) rfl).one]; rfl) rfl rfl) ?_;rintro _ w22 hS22;refine qn ?_;obtain rfl := oi H;refine C_retM (vs := [.agg (Catalog.cells (Catalog.mk x0.seq l17 l19 l21 r6) ur3_0 ur4_0 ur5_0 ur6_0)]) rfl ⟨(box_out 4 Ty.agg38 Ty.size38 hS22 rfl rfl), trivial⟩ ?_;exact ⟨F20, ur3_0, ur4_0, ur5_0, ur6_0, rfl, hS22.pick [3, 2, 1, 0] (by decide)⟩
def cellarerkeep_Bytes.k1 : Option Bool :=
  some true
def cellarerkeep_Bytes.l2 (x0 : List UInt8) (x1 : List UInt8) (rec5 : Int → Option Bool) : Int → Option Bool
  | i4 =>
    if decide (i4 < (x0.length : Int)) then
      bd (ix x0 i4) fun x7 =>
      bd (ix x1 i4) fun x9 =>
      if decide ((x7.toNat : Int) ≠ (x9.toNat : Int)) then
        some false
      else
        rec5 (wr (i4 + 1))
    else
      cellarerkeep_Bytes.k1
def cellarerkeep_Bytes (x0 : List UInt8) (x1 : List UInt8) : Option Bool :=
  if decide ((x0.length : Int) ≠ (x1.length : Int)) then
    some false
  else
    loop (cellarerkeep_Bytes.l2 x0 x1) 0
set_option maxRecDepth 100000 in
theorem cellarerkeep_Bytes_ok {K : Tb} {F : Frz} {w : Hp} {x0 : List UInt8} {x1 : List UInt8} {r : Bool} {v0 : Val} {v1 : Val} (hA : Gd F w) (h0 : SlF tB F v0 x0) (h1 : SlF tB F v1 x1) (H : cellarerkeep_Bytes x0 x1 = some r) : Ret Tryz.prog K 61 [v0, v1] w fun v w' => ∃ (F' : Frz), v = .b r ∧ St [] w F F' [] w' := by
 refine qa2 Tryz.func61 ?_;have hS := St.start hA;dsimp only [cellarerkeep_Bytes] at H;refine qs ?_;refine qm ?_;refine C_seq ?_;refine qs ?_;refine qc ?_;refine qr (O_len Tryz.underlying47 rfl h0.ln) ?_;refine qc ?_;refine qr (O_len Tryz.underlying47 rfl h1.ln) ?_;refine qr (O_bin rfl rfl bI_neq) ?_;refine qn ?_;refine C_cond rfl (fun hc1 => ?_) (fun hc1 => ?_)
 ·rw [if_t hc1] at H;refine qs ?_;refine qm ?_;obtain rfl := oi H;refine C_ret rfl rfl ?_;exact ⟨F, rfl, hS⟩
 ·rw [if_f hc1] at H;refine qk ?_;refine C_seq_join (fun E wq => cellarerkeep_Bytes.k1 = some r ∧ ∃ (F2 : Frz), E = [] ∧ F.le F2 ∧ St [] w F F2 [] wq) ?_ ?_
  ·refine qs ?_;refine qm ?_;refine C_block ?_;refine C_loopM (fun (s : Int) E wq => ∃ (F3 : Frz), E = [(0, v0), (1, v1), (5, .i .i64 s)] ∧ F.le F3 ∧ St [] w F F3 [] wq) H ?_ ?_
   ·exact ⟨_, ⟨F, rfl, (Frz.le.refl _), hS⟩, ⟨rfl, rfl, rfl, trivial⟩⟩
   ·rintro rec5 i4 E w3 hI H
    try dsimp only at hI
    obtain ⟨F3, rfl, le3, hS3⟩ := hI;dsimp only [cellarerkeep_Bytes.l2] at H;refine C_seq ?_;refine qs ?_;refine q2 ?_;refine qr (O_len Tryz.underlying47 rfl h0.ln) ?_;refine qr (O_bin rfl rfl bI_lss) ?_;refine qn ?_;refine C_cond rfl (fun hc6 => ?_) (fun hc6 => ?_)
    ·rw [if_t hc6] at H;refine qk ?_;refine C_seq ?_;refine C_block ?_;refine C_seq ?_;obtain ⟨x7, hx7, H⟩ := bd_some H;obtain ⟨x9, hx9, H⟩ := bd_some H;refine C_regionD (G := (nowF _)) [0, 1, 2, 3, 4, 5, 6, 7, 8] rfl Ty.mixed (by kernel_rfl) (nowF_agree _) ?_;refine q2 ?_;obtain ⟨hp11, hy11⟩ := ix_some hx7;obtain ⟨cs11, hr11, he11⟩ := (h0.mono le3).el hy11;obtain rfl := hr11;replace he11 : Elf _ _ 1 _ _ := he11;have hi11 := he11.ixd;refine qi Tryz.underlying47 Ty.size5 hi11 hp11 ?_;refine qr (O_ld1 0 Ty.cell5 rfl (he11.mono hS3.agree) (by omega) rfl) ?_;refine q2 ?_;obtain ⟨hp12, hy12⟩ := ix_some hx9;obtain ⟨cs12, hr12, he12⟩ := (h1.mono le3).el hy12;obtain rfl := hr12;replace he12 : Elf _ _ 1 _ _ := he12;have hi12 := he12.ixd;refine qi Tryz.underlying47 Ty.size5 hi12 hp12 ?_;refine qr (O_ld1 0 Ty.cell5 rfl (he12.mono hS3.agree) (by omega) rfl) ?_;refine qr (O_bin rfl rfl bI_neq) ?_;refine qn ?_;refine C_cond rfl (fun hc13 => ?_) (fun hc13 => ?_)
     ·rw [if_t hc13] at H;refine qs ?_;refine qm ?_;obtain rfl := oi H;refine C_ret rfl rfl ?_;exact ⟨F3, rfl, hS3⟩
     ·rw [if_f hc13] at H;refine C_skip ?_;refine N_block ?_;refine N_code ?_;refine qd ?_;refine q3 ?_;refine W_nil ?_;exact N_againM (wr (i4 + 1)) _ H ⟨F3, rfl, le3, hS3⟩ ⟨rfl, rfl, rfl, trivial⟩
    ·rw [if_f hc6] at H;refine C_exit _ rfl ?_;exact N_join _ ⟨H, ⟨F3, rfl, le3, hS3⟩⟩ trivial
  ·rintro E w2 ⟨H, F2, rfl, le2, hS2⟩;dsimp only [cellarerkeep_Bytes.k1] at H;refine qs ?_;refine qm ?_;obtain rfl := oi H;refine C_ret rfl rfl ?_;exact ⟨F2, rfl, hS2⟩
def cellarerkeep_Loc (x0 : Loc) (x1 : Loc) : Option Bool :=
  some (((decide (x0.vol = x1.vol) && decide (x0.file = x1.file)) && decide (x0.off = x1.off)) && decide (x0.len = x1.len))
set_option maxRecDepth 100000 in
theorem cellarerkeep_Loc_ok {K : Tb} {F : Frz} {w : Hp} {x0 : Loc} {x1 : Loc} {r : Bool} (hA : Gd F w) (H : cellarerkeep_Loc x0 x1 = some r) : Ret Tryz.prog K 21 [.agg (Loc.cells x0), .agg (Loc.cells x1)] w fun v w' => ∃ (F' : Frz), v = .b r ∧ St [] w F F' [] w' := by
 refine qa2 Tryz.func21 ?_;have hS := St.start hA;dsimp only [cellarerkeep_Loc] at H;refine qs ?_;refine xm (E_bx (cs := [.i .i64 x0.vol, .i .i64 x0.file, .i .i64 x0.off, .i .i64 x0.len]) rfl rfl rfl hS) ?_;rintro _ w1 ⟨g1, rfl, hS1⟩;refine xm (E_bx (cs := [.i .i64 x1.vol, .i .i64 x1.file, .i .i64 x1.off, .i .i64 x1.len]) rfl rfl rfl hS1) ?_;rintro _ w2 ⟨g2, rfl, hS2⟩;refine qm ?_;refine qs ?_;refine qf Ty.field51_0 ?_;refine qb 1 Ty.cell3 hS2 ?_;refine qf Ty.field51_0 ?_;refine qb 0 Ty.cell3 hS2 ?_;refine qr (O_bin rfl rfl bI_eql) ?_;refine qc ?_;refine W_gs (v := pl g1 (0 + 1)) rfl rfl rfl rfl (fun ⟨hb3, _⟩ => ?_) ?_
 ·rw [hb3];intro hK;refine qf Ty.field51_1 ?_;exact hK
 refine W_gs (v := .i .i64 x0.file) rfl rfl rfl rfl (fun ⟨hb4, _⟩ => ?_) ?_
 ·rw [hb4];intro hK;refine qb 1 Ty.cell3 hS2 ?_;exact hK
 refine W_gs (v := pl g2 (0 + 1)) rfl rfl rfl rfl (fun ⟨hb5, _⟩ => ?_) ?_
 ·rw [hb5];intro hK;refine qf Ty.field51_1 ?_;exact hK
 refine W_gs (v := .i .i64 x1.file) rfl rfl rfl rfl (fun ⟨hb6, _⟩ => ?_) ?_
 ·rw [hb6];intro hK;refine qb 0 Ty.cell3 hS2 ?_;exact hK
 refine W_gs (v := .b (decide (x0.file = x1.file))) rfl rfl rfl rfl (fun ⟨hb7, _⟩ => ?_) ?_
 ·rw [hb7];intro hK;refine qr (O_bin rfl rfl bI_eql) ?_;exact hK
 refine W_pkA rfl rfl rfl rfl rfl (fun hc => by rw [hc]; rfl) rfl ?_;refine qc ?_;refine W_gs (v := pl g1 (0 + 2)) rfl rfl rfl rfl (fun ⟨hb8, _⟩ => ?_) ?_
 ·rw [hb8];intro hK;refine qf Ty.field51_2 ?_;exact hK
 refine W_gs (v := .i .i64 x0.off) rfl rfl rfl rfl (fun ⟨hb9, _⟩ => ?_) ?_
 ·rw [hb9];intro hK;refine qb 1 Ty.cell3 hS2 ?_;exact hK
 refine W_gs (v := pl g2 (0 + 2)) rfl rfl rfl rfl (fun ⟨hb10, _⟩ => ?_) ?_
 ·rw [hb10];intro hK;refine qf Ty.field51_2 ?_;exact hK
 refine W_gs (v := .i .i64 x1.off) rfl rfl rfl rfl (fun ⟨hb11, _⟩ => ?_) ?_
 ·rw [hb11];intro hK;refine qb 0 Ty.cell3 hS2 ?_;exact hK
 refine W_gs (v := .b (decide (x0.off = x1.off))) rfl rfl rfl rfl (fun ⟨hb12, _⟩ => ?_) ?_
 ·rw [hb12];intro hK;refine qr (O_bin rfl rfl bI_eql) ?_;exact hK
 refine W_pkA rfl rfl rfl rfl rfl (fun hc => by rw [hc]; rfl) rfl ?_;refine qc ?_;refine W_gs (v := pl g1 (0 + 3)) rfl rfl rfl rfl (fun ⟨hb13, _⟩ => ?_) ?_
 ·rw [hb13];intro hK;refine qf Ty.field51_3 ?_;exact hK
 refine W_gs (v := .i .i64 x0.len) rfl rfl rfl rfl (fun ⟨hb14, _⟩ => ?_) ?_
 ·rw [hb14];intro hK;refine qb 1 Ty.cell3 hS2 ?_;exact hK
 refine W_gs (v := pl g2 (0 + 3)) rfl rfl rfl rfl (fun ⟨hb15, _⟩ => ?_) ?_
 ·rw [hb15];intro hK;refine qf Ty.field51_3 ?_;exact hK
 refine W_gs (v := .i .i64 x1.len) rfl rfl rfl rfl (fun ⟨hb16, _⟩ => ?_) ?_
 ·rw [hb16];intro hK;refine qb 0 Ty.cell3 hS2 ?_;exact hK
 refine W_gs (v := .b (decide (x0.len = x1.len))) rfl rfl rfl rfl (fun ⟨hb17, _⟩ => ?_) ?_
 ·rw [hb17];intro hK;refine qr (O_bin rfl rfl bI_eql) ?_;exact hK
 refine W_pkA rfl rfl rfl rfl rfl (fun hc => by rw [hc]; rfl) rfl ?_;refine qm ?_;obtain rfl := oi H;refine C_ret rfl rfl ?_;exact ⟨F, rfl, hS2.pick [] (by decide)⟩
def cellarerkeep_Locs.k1 : Option Bool :=
  some true
def cellarerkeep_Locs.l2 (x0 : List Loc) (x1 : List Loc) (rec5 : Int → Option Bool) : Int → Option Bool
  | i4 =>
    if decide (i4 < (x0.length : Int)) then
      bd (ix x0 i4) fun x7 =>
      bd (ix x1 i4) fun x9 =>
      bd (cellarerkeep_Loc x7 x9) fun r11 =>
      if (!r11) then
        some false
      else
        rec5 (wr (i4 + 1))
    else
      cellarerkeep_Locs.k1
def cellarerkeep_Locs (x0 : List Loc) (x1 : List Loc) : Option Bool :=
  if decide ((x0.length : Int) ≠ (x1.length : Int)) then
    some false
  else
    loop (cellarerkeep_Locs.l2 x0 x1) 0
set_option maxRecDepth 100000 in
theorem cellarerkeep_Locs_ok {K : Tb} {F : Frz} {w : Hp} {x0 : List Loc} {x1 : List Loc} {r : Bool} {v0 : Val} {v1 : Val} (hA : Gd F w) (h0 : SlF Loc.t F v0 x0) (h1 : SlF Loc.t F v1 x1) (H : cellarerkeep_Locs x0 x1 = some r) : Ret Tryz.prog K 51 [v0, v1] w fun v w' => ∃ (F' : Frz), v = .b r ∧ St [] w F F' [] w' := by
 refine qa2 Tryz.func51 ?_;have hS := St.start hA;dsimp only [cellarerkeep_Locs] at H;refine qs ?_;refine qm ?_;refine C_seq ?_;refine qs ?_;refine qc ?_;refine qr (O_len Tryz.underlying44 rfl h0.ln) ?_;refine qc ?_;refine qr (O_len Tryz.underlying44 rfl h1.ln) ?_;refine qr (O_bin rfl rfl bI_neq) ?_;refine qn ?_;refine C_cond rfl (fun hc1 => ?_) (fun hc1 => ?_)
 ·rw [if_t hc1] at H;refine qs ?_;refine qm ?_;obtain rfl := oi H;refine C_ret rfl rfl ?_;exact ⟨F, rfl, hS⟩
 ·rw [if_f hc1] at H;refine qk ?_;refine C_seq_join (fun E wq => cellarerkeep_Locs.k1 = some r ∧ ∃ (F2 : Frz), E = [] ∧ F.le F2 ∧ St [] w F F2 [] wq) ?_ ?_
  ·refine qs ?_;refine qm ?_;refine C_block ?_;refine C_loopM (fun (s : Int) E wq => ∃ (F3 : Frz), E = [(0, v0), (1, v1), (5, .i .i64 s)] ∧ F.le F3 ∧ St [] w F F3 [] wq) H ?_ ?_
   ·exact ⟨_, ⟨F, rfl, (Frz.le.refl _), hS⟩, ⟨rfl, rfl, rfl, trivial⟩⟩
   ·rintro rec5 i4 E w3 hI H
    try dsimp only at hI
    obtain ⟨F3, rfl, le3, hS3⟩ := hI;dsimp only [cellarerkeep_Locs.l2] at H;refine C_seq ?_;refine qs ?_;refine q2 ?_;refine qr (O_len Tryz.underlying44 rfl h0.ln) ?_;refine qr (O_bin rfl rfl bI_lss) ?_;refine qn ?_;refine C_cond rfl (fun hc6 => ?_) (fun hc6 => ?_)
    ·rw [if_t hc6] at H;refine qk ?_;refine C_seq ?_;refine C_block ?_;refine C_seq ?_;obtain ⟨x7, hx7, H⟩ := bd_some H;obtain ⟨x9, hx9, H⟩ := bd_some H;obtain ⟨r11, hr11, H⟩ := bd_some H;refine C_regionD (G := F3) [0, 1, 2, 3, 4, 5, 6, 7, 8, 9] rfl Ty.mixed (by kernel_rfl) hS3.agree ?_;refine q2 ?_;obtain ⟨hp12, hy12⟩ := ix_some hx7;obtain ⟨cs12, hr12, he12⟩ := (h0.mono le3).el hy12;obtain rfl := hr12;replace he12 : Elf _ _ 4 _ _ := he12;have hi12 := he12.ixd;refine qi Tryz.underlying44 Ty.size51 hi12 hp12 ?_;refine qq (O_ldg 0 (Loc.cells x7) Ty.agg51 Ty.size51 rfl (he12.mono hS3.agree) (by omega) rfl (Nat.le_of_ble_eq_true rfl)) ?_;refine q2 ?_;obtain ⟨hp13, hy13⟩ := ix_some hx9;obtain ⟨cs13, hr13, he13⟩ := (h1.mono le3).el hy13;obtain rfl := hr13;replace he13 : Elf _ _ 4 _ _ := he13;have hi13 := he13.ixd;refine qi Tryz.underlying44 Ty.size51 hi13 hp13 ?_;refine qq (O_ldg 0 (Loc.cells x9) Ty.agg51 Ty.size51 rfl (he13.mono hS3.agree) (by omega) rfl (Nat.le_of_ble_eq_true rfl)) ?_;refine ql (cellarerkeep_Loc_ok hS3.good hr11) ?_;rintro v14 w14 ⟨Fr11, rfl, hT14⟩;have hS14 := hS3.lent hT14;refine Nxt.frz (Frz.le.refl _) hS14.agree ?_;refine qm ?_;refine C_cond rfl (fun hc15 => ?_) (fun hc15 => ?_)
     ·rw [if_t hc15] at H;refine qs ?_;refine qm ?_;obtain rfl := oi H;refine C_ret rfl rfl ?_;exact ⟨F3, rfl, hS14⟩
     ·rw [if_f hc15] at H;refine C_skip ?_;refine N_block ?_;refine N_code ?_;refine qd ?_;refine q3 ?_;refine W_nil ?_;exact N_againM (wr (i4 + 1)) _ H ⟨F3, rfl, le3, hS14⟩ ⟨rfl, rfl, rfl, trivial⟩
    ·rw [if_f hc6] at H;refine C_exit _ rfl ?_;exact N_join _ ⟨H, ⟨F3, rfl, le3, hS3⟩⟩ trivial
  ·rintro E w2 ⟨H, F2, rfl, le2, hS2⟩;dsimp only [cellarerkeep_Locs.k1] at H;refine qs ?_;refine qm ?_;obtain rfl := oi H;refine C_ret rfl rfl ?_;exact ⟨F2, rfl, hS2⟩
def cellarerkeep_Chunk (x0 : Chunk) (x1 : Chunk) : Option Bool :=
  bd (only (decide (x0.id = x1.id) && (x0.staged == x1.staged)) (cellarerkeep_Bytes x0.data x1.data) false) fun r3 =>
  bd (only ((decide (x0.id = x1.id) && (x0.staged == x1.staged)) && r3) (cellarerkeep_Locs x0.locs x1.locs) false) fun r4 =>
  some (((decide (x0.id = x1.id) && (x0.staged == x1.staged)) && r3) && r4)
set_option maxRecDepth 100000 in
theorem cellarerkeep_Chunk_ok {K : Tb} {F : Frz} {w : Hp} {x0 : Chunk} {x1 : Chunk} {r : Bool} {v0_0 : Val} {v0_1 : Val} {v1_0 : Val} {v1_1 : Val} (hA : Gd F w) (h0_0 : SlF tB F v0_0 x0.data) (h0_1 : SlF Loc.t F v0_1 x0.locs) (l0_0 : (x0.id).length = 32) (h1_0 : SlF tB F v1_0 x1.data) (h1_1 : SlF Loc.t F v1_1 x1.locs) (l1_0 : (x1.id).length = 32) (H : cellarerkeep_Chunk x0 x1 = some r) : Ret Tryz.prog K 107 [.agg (Chunk.cells x0 v0_0 v0_1), .agg (Chunk.cells x1 v1_0 v1_1)] w fun v w' => ∃ (F' : Frz), v = .b r ∧ St [] w F F' [] w' := by
 refine qa2 Tryz.func107 ?_;have hS := St.start hA;dsimp only [cellarerkeep_Chunk] at H;refine qs ?_;refine xm (E_bx (cs := idCells x0.id ++ [.b x0.staged, v0_0, v0_1]) rfl rfl (by simp only [List.all_cons, List.all_nil, List.all_append, h0_0.ln.one, h0_1.ln.one]; rfl) hS) ?_;rintro _ w1 ⟨g1, rfl, hS1⟩;refine xm (E_bx (cs := idCells x1.id ++ [.b x1.staged, v1_0, v1_1]) rfl rfl (by simp only [List.all_cons, List.all_nil, List.all_append, h1_0.ln.one, h1_1.ln.one]; rfl) hS1) ?_;rintro _ w2 ⟨g2, rfl, hS2⟩;refine qm ?_;refine C_seq ?_;obtain ⟨r3, hr3, H⟩ := bd_some H;obtain ⟨r4, hr4, H⟩ := bd_some H;refine qd ?_;refine qf Ty.field60_0 ?_;refine qr (O_bldg 1 (idCells x0.id) Ty.agg58 Ty.size58 (Nat.zero_lt_succ _) rfl hS2 rfl (fun q u h => sub_at (post := [.b x0.staged, v0_0, v0_1]) rfl h)) ?_;refine qf Ty.field60_0 ?_;refine qr (O_bldg 0 (idCells x1.id) Ty.agg58 Ty.size58 (Nat.zero_lt_succ _) rfl hS2 rfl (fun q u h => sub_at (post := [.b x1.staged, v1_0, v1_1]) rfl h)) ?_;refine qr (O_bin rfl rfl (bA_eql Ty.eqt58 rfl rfl (eqL_id l0_0 l1_0))) ?_;refine qc ?_;refine W_gs (v := pl g1 (0 + 32)) rfl rfl rfl rfl (fun ⟨hb5, _⟩ => ?_) ?_
 ·rw [hb5];intro hK;refine qf Ty.field60_1 ?_;exact hK
 refine W_gs (v := .b x0.staged) rfl rfl rfl rfl (fun ⟨hb6, _⟩ => ?_) ?_
 ·rw [hb6];intro hK;refine qb 1 Ty.cell4 hS2 ?_;exact hK
 refine W_gs (v := pl g2 (0 + 32)) rfl rfl rfl rfl (fun ⟨hb7, _⟩ => ?_) ?_
 ·rw [hb7];intro hK;refine qf Ty.field60_1 ?_;exact hK
 refine W_gs (v := .b x1.staged) rfl rfl rfl rfl (fun ⟨hb8, _⟩ => ?_) ?_
 ·rw [hb8];intro hK;refine qb 0 Ty.cell4 hS2 ?_;exact hK
 refine W_gs (v := .b (x0.staged == x1.staged)) rfl rfl rfl rfl (fun ⟨hb9, _⟩ => ?_) ?_
 ·rw [hb9];intro hK;refine qr (O_bin rfl rfl (bB_eql Tryz.underlying4)) ?_;exact hK
 refine W_pkA rfl rfl rfl rfl rfl (fun hc => by rw [hc]; rfl) rfl ?_;refine qc ?_;refine W_gs (v := pl g1 (0 + 33)) rfl rfl rfl rfl (fun ⟨hb10, _⟩ => ?_) ?_
 ·rw [hb10];intro hK;refine qf Ty.field60_2 ?_;exact hK
 refine W_gs (v := v0_0) rfl rfl rfl rfl (fun ⟨hb11, _⟩ => ?_) ?_
 ·rw [hb11];intro hK;refine qb 1 Ty.cell47 hS2 ?_;exact hK
 refine W_gs (v := pl g2 (0 + 33)) rfl rfl rfl rfl (fun ⟨hb12, _⟩ => ?_) ?_
 ·rw [hb12];intro hK;refine qf Ty.field60_2 ?_;exact hK
 refine W_gs (v := v1_0) rfl rfl rfl rfl (fun ⟨hb13, _⟩ => ?_) ?_
 ·rw [hb13];intro hK;refine qb 0 Ty.cell47 hS2 ?_;exact hK
 obtain ⟨Q15, hQ15⟩ : ∃ Q : Hp → Prop, Q = fun wq => St [] w F F [.box g2 (idCells x1.id ++ [.b x1.staged, v1_0, v1_1]), .box g1 (idCells x0.id ++ [.b x0.staged, v0_0, v0_1])] wq := ⟨_, rfl⟩;refine W_gw (v := .b r3) (Q := Q15) (by rw [hQ15]; exact hS2) rfl rfl rfl rfl (fun ⟨hb14, _⟩ => ?_) ?_
 ·rw [hb14];intro hK;have hy16 := hr3;rw [only_t hb14] at hy16;refine ql (cellarerkeep_Bytes_ok hS2.good h0_0 h1_0 hy16) ?_;rintro v17 w17 ⟨Fr3, rfl, hT17⟩;have hS17 := hS2.lent hT17;exact hK _ (by rw [hQ15]; exact hS17)
 intro w18 hS18;rw [hQ15] at hS18;refine Nxt.now ?_;refine W_pkA rfl rfl rfl rfl rfl (fun hc => by rw [hc]; rfl) rfl ?_;refine qc ?_;refine W_gs (v := pl g1 (0 + 34)) rfl rfl rfl rfl (fun ⟨hb19, _⟩ => ?_) ?_
 ·rw [hb19];intro hK;refine qf Ty.field60_3 ?_;exact hK
 refine W_gs (v := v0_1) rfl rfl rfl rfl (fun ⟨hb20, _⟩ => ?_) ?_
 ·rw [hb20];intro hK;refine qb 1 Ty.cell44 hS18 ?_;exact hK
 refine W_gs (v := pl g2 (0 + 34)) rfl rfl rfl rfl (fun ⟨hb21, _⟩ => ?_) ?_
 ·rw [hb21];intro hK;refine qf Ty.field60_3 ?_;exact hK
 refine W_gs (v := v1_1) rfl rfl rfl rfl (fun ⟨hb22, _⟩ => ?_) ?_
 ·rw [hb22];intro hK;refine qb 0 Ty.cell44 hS18 ?_;exact hK
 obtain ⟨Q24, hQ24⟩ : ∃ Q : Hp → Prop, Q = fun wq => St [] w F F [.box g2 (idCells x1.id ++ [.b x1.staged, v1_0, v1_1]), .box g1 (idCells x0.id ++ [.b x0.staged, v0_0, v0_1])] wq := ⟨_, rfl⟩;refine W_gw (v := .b r4) (Q := Q24) (by rw [hQ24]; exact hS18) rfl rfl rfl rfl (fun ⟨hb23, _⟩ => ?_) ?_
 ·rw [hb23];intro hK;have hy25 := hr4;rw [only_t hb23] at hy25;refine ql (cellarerkeep_Locs_ok hS18.good h0_1 h1_1 hy25) ?_;rintro v26 w26 ⟨Fr4, rfl, hT26⟩;have hS26 := hS18.lent hT26;exact hK _ (by rw [hQ24]; exact hS26)
 intro w27 hS27;rw [hQ24] at hS27;refine Nxt.now ?_;refine W_pkA rfl rfl rfl rfl rfl (fun hc => by rw [hc]; rfl) rfl ?_;refine qm ?_;obtain rfl := oi H;refine C_ret rfl rfl ?_;exact ⟨F, rfl, hS27.pick [] (by decide)⟩
def cellarerkeep_Chunks.k1 : Option Bool :=
  some true
def cellarerkeep_Chunks.l2 (x0 : List Chunk) (x1 : List Chunk) (rec5 : Int → Option Bool) : Int → Option Bool
  | i4 =>
    if decide (i4 < (x0.length : Int)) then
      bd (ix x0 i4) fun x7 =>
      bd (ix x1 i4) fun x9 =>
      bd (cellarerkeep_Chunk x7 x9) fun r11 =>
      if (!r11) then
        some false
      else
        rec5 (wr (i4 + 1))
    else
      cellarerkeep_Chunks.k1
def cellarerkeep_Chunks (x0 : List Chunk) (x1 : List Chunk) : Option Bool :=
  if decide ((x0.length : Int) ≠ (x1.length : Int)) then
    some false
  else
    loop (cellarerkeep_Chunks.l2 x0 x1) 0
set_option maxRecDepth 100000 in
theorem cellarerkeep_Chunks_ok {K : Tb} {F : Frz} {w : Hp} {x0 : List Chunk} {x1 : List Chunk} {r : Bool} {v0 : Val} {v1 : Val} (hA : Gd F w) (h0 : SlF Chunk.t F v0 x0) (h1 : SlF Chunk.t F v1 x1) (H : cellarerkeep_Chunks x0 x1 = some r) : Ret Tryz.prog K 49 [v0, v1] w fun v w' => ∃ (F' : Frz), v = .b r ∧ St [] w F F' [] w' := by
 refine qa2 Tryz.func49 ?_;have hS := St.start hA;dsimp only [cellarerkeep_Chunks] at H;refine qs ?_;refine qm ?_;refine C_seq ?_;refine qs ?_;refine qc ?_;refine qr (O_len Tryz.underlying35 rfl h0.ln) ?_;refine qc ?_;refine qr (O_len Tryz.underlying35 rfl h1.ln) ?_;refine qr (O_bin rfl rfl bI_neq) ?_;refine qn ?_;refine C_cond rfl (fun hc1 => ?_) (fun hc1 => ?_)
 ·rw [if_t hc1] at H;refine qs ?_;refine qm ?_;obtain rfl := oi H;refine C_ret rfl rfl ?_;exact ⟨F, rfl, hS⟩
 ·rw [if_f hc1] at H;refine qk ?_;refine C_seq_join (fun E wq => cellarerkeep_Chunks.k1 = some r ∧ ∃ (F2 : Frz), E = [] ∧ F.le F2 ∧ St [] w F F2 [] wq) ?_ ?_
  ·refine qs ?_;refine qm ?_;refine C_block ?_;refine C_loopM (fun (s : Int) E wq => ∃ (F3 : Frz), E = [(0, v0), (1, v1), (5, .i .i64 s)] ∧ F.le F3 ∧ St [] w F F3 [] wq) H ?_ ?_
   ·exact ⟨_, ⟨F, rfl, (Frz.le.refl _), hS⟩, ⟨rfl, rfl, rfl, trivial⟩⟩
   ·rintro rec5 i4 E w3 hI H
    try dsimp only at hI
    obtain ⟨F3, rfl, le3, hS3⟩ := hI;dsimp only [cellarerkeep_Chunks.l2] at H;refine C_seq ?_;refine qs ?_;refine q2 ?_;refine qr (O_len Tryz.underlying35 rfl h0.ln) ?_;refine qr (O_bin rfl rfl bI_lss) ?_;refine qn ?_;refine C_cond rfl (fun hc6 => ?_) (fun hc6 => ?_)
    ·rw [if_t hc6] at H;refine qk ?_;refine C_seq ?_;refine C_block ?_;refine C_seq ?_;obtain ⟨x7, hx7, H⟩ := bd_some H;obtain ⟨x9, hx9, H⟩ := bd_some H;obtain ⟨r11, hr11, H⟩ := bd_some H;refine C_regionD (G := F3) [0, 1, 2, 3, 4, 5, 6, 7, 8, 9] rfl Ty.mixed (by kernel_rfl) hS3.agree ?_;refine q2 ?_;obtain ⟨hp12, hy12⟩ := ix_some hx7;obtain ⟨cs12, hr12, he12⟩ := (h0.mono le3).el hy12;obtain ⟨ue8_0, ue8_1, rfl, hle8_0, hue8_0, hue8_1⟩ := hr12;replace he12 : Elf _ _ 35 _ _ := he12;have hi12 := he12.ixd;refine qi Tryz.underlying35 Ty.size60 hi12 hp12 ?_;refine qq (O_ldg 0 (Chunk.cells x7 ue8_0 ue8_1) Ty.agg60 Ty.size60 rfl (he12.mono hS3.agree) (by omega) rfl (Nat.le_of_ble_eq_true rfl)) ?_;refine q2 ?_;obtain ⟨hp13, hy13⟩ := ix_some hx9;obtain ⟨cs13, hr13, he13⟩ := (h1.mono le3).el hy13;obtain ⟨ue10_0, ue10_1, rfl, hle10_0, hue10_0, hue10_1⟩ := hr13;replace he13 : Elf _ _ 35 _ _ := he13;have hi13 := he13.ixd;refine qi Tryz.underlying35 Ty.size60 hi13 hp13 ?_;refine qq (O_ldg 0 (Chunk.cells x9 ue10_0 ue10_1) Ty.agg60 Ty.size60 rfl (he13.mono hS3.agree) (by omega) rfl (Nat.le_of_ble_eq_true rfl)) ?_;refine ql (cellarerkeep_Chunk_ok hS3.good hue8_0 hue8_1 hle8_0 hue10_0 hue10_1 hle10_0 hr11) ?_;rintro v14 w14 ⟨Fr11, rfl, hT14⟩;have hS14 := hS3.lent hT14;refine Nxt.frz (Frz.le.refl _) hS14.agree ?_;refine qm ?_;refine C_cond rfl (fun hc15 => ?_) (fun hc15 => ?_)
     ·rw [if_t hc15] at H;refine qs ?_;refine qm ?_;obtain rfl := oi H;refine C_ret rfl rfl ?_;exact ⟨F3, rfl, hS14⟩
     ·rw [if_f hc15] at H;refine C_skip ?_;refine N_block ?_;refine N_code ?_;refine qd ?_;refine q3 ?_;refine W_nil ?_;exact N_againM (wr (i4 + 1)) _ H ⟨F3, rfl, le3, hS14⟩ ⟨rfl, rfl, rfl, trivial⟩
    ·rw [if_f hc6] at H;refine C_exit _ rfl ?_;exact N_join _ ⟨H, ⟨F3, rfl, le3, hS3⟩⟩ trivial
  ·rintro E w2 ⟨H, F2, rfl, le2, hS2⟩;dsimp only [cellarerkeep_Chunks.k1] at H;refine qs ?_;refine qm ?_;obtain rfl := oi H;refine C_ret rfl rfl ?_;exact ⟨F2, rfl, hS2⟩
def cellarerkeep_Vols.k1 : Option Bool :=
  some true
def cellarerkeep_Vols.l2 (x0 : List Vol) (x1 : List Vol) (rec5 : Int → Option Bool) : Int → Option Bool
  | i4 =>
    if decide (i4 < (x0.length : Int)) then
      bd (ix x0 i4) fun x7 =>
      bd (ix x1 i4) fun x9 =>
      if (((decide (x7.pool ≠ x9.pool) || decide (x7.epoch ≠ x9.epoch)) || decide (x7.state ≠ x9.state)) || decide (x7.files ≠ x9.files)) then
        some false
      else
        rec5 (wr (i4 + 1))
    else
      cellarerkeep_Vols.k1
def cellarerkeep_Vols (x0 : List Vol) (x1 : List Vol) : Option Bool :=
  if decide ((x0.length : Int) ≠ (x1.length : Int)) then
    some false
  else
    loop (cellarerkeep_Vols.l2 x0 x1) 0
set_option maxRecDepth 100000 in
theorem cellarerkeep_Vols_ok {K : Tb} {F : Frz} {w : Hp} {x0 : List Vol} {x1 : List Vol} {r : Bool} {v0 : Val} {v1 : Val} (hA : Gd F w) (h0 : SlF Vol.t F v0 x0) (h1 : SlF Vol.t F v1 x1) (H : cellarerkeep_Vols x0 x1 = some r) : Ret Tryz.prog K 18 [v0, v1] w fun v w' => ∃ (F' : Frz), v = .b r ∧ St [] w F F' [] w' := by
 refine qa2 Tryz.func18 ?_;have hS := St.start hA;dsimp only [cellarerkeep_Vols] at H;refine qs ?_;refine qm ?_;refine C_seq ?_;refine qs ?_;refine qc ?_;refine qr (O_len Tryz.underlying33 rfl h0.ln) ?_;refine qc ?_;refine qr (O_len Tryz.underlying33 rfl h1.ln) ?_;refine qr (O_bin rfl rfl bI_neq) ?_;refine qn ?_;refine C_cond rfl (fun hc1 => ?_) (fun hc1 => ?_)
 ·rw [if_t hc1] at H;refine qs ?_;refine qm ?_;obtain rfl := oi H;refine C_ret rfl rfl ?_;exact ⟨F, rfl, hS⟩
 ·rw [if_f hc1] at H;refine qk ?_;refine C_seq_join (fun E wq => cellarerkeep_Vols.k1 = some r ∧ ∃ (F2 : Frz), E = [] ∧ F.le F2 ∧ St [] w F F2 [] wq) ?_ ?_
  ·refine qs ?_;refine qm ?_;refine C_block ?_;refine C_loopM (fun (s : Int) E wq => ∃ (F3 : Frz), E = [(0, v0), (1, v1), (5, .i .i64 s)] ∧ F.le F3 ∧ St [] w F F3 [] wq) H ?_ ?_
   ·exact ⟨_, ⟨F, rfl, (Frz.le.refl _), hS⟩, ⟨rfl, rfl, rfl, trivial⟩⟩
   ·rintro rec5 i4 E w3 hI H
    try dsimp only at hI
    obtain ⟨F3, rfl, le3, hS3⟩ := hI;dsimp only [cellarerkeep_Vols.l2] at H;refine C_seq ?_;refine qs ?_;refine q2 ?_;refine qr (O_len Tryz.underlying33 rfl h0.ln) ?_;refine qr (O_bin rfl rfl bI_lss) ?_;refine qn ?_;refine C_cond rfl (fun hc6 => ?_) (fun hc6 => ?_)
    ·rw [if_t hc6] at H;refine qk ?_;refine C_seq ?_;refine C_block ?_;refine C_seq ?_;obtain ⟨x7, hx7, H⟩ := bd_some H;obtain ⟨x9, hx9, H⟩ := bd_some H;refine C_regionD (G := F3) [0, 1, 2, 3, 4, 5, 6, 7, 8, 9, 10, 11] rfl Ty.mixed (by kernel_rfl) hS3.agree ?_;refine q2 ?_;obtain ⟨hp13, hy13⟩ := ix_some hx7;obtain ⟨cs13, hr13, he13⟩ := (h0.mono le3).el hy13;obtain rfl := hr13;replace he13 : Elf _ _ 4 _ _ := he13;have hi13 := he13.ixd;refine qi Tryz.underlying33 Ty.size32 hi13 hp13 ?_;refine qq (O_ldg 0 (Vol.cells x7) Ty.agg32 Ty.size32 rfl (he13.mono hS3.agree) (by omega) rfl (Nat.le_of_ble_eq_true rfl)) ?_;refine q2 ?_;obtain ⟨hp14, hy14⟩ := ix_some hx9;obtain ⟨cs14, hr14, he14⟩ := (h1.mono le3).el hy14;obtain rfl := hr14;replace he14 : Elf _ _ 4 _ _ := he14;have hi14 := he14.ixd;refine qi Tryz.underlying33 Ty.size32 hi14 hp14 ?_;refine qr (O_ldg 0 (Vol.cells x9) Ty.agg32 Ty.size32 rfl he14 (by omega) rfl (Nat.le_of_ble_eq_true rfl)) ?_;refine qx (E_alc (cs := [.i .i64 0, .i .i64 0, .i .i64 0, .i .i64 0]) Ty.zero32 rfl hS3) ?_;rintro _ w11 ⟨g11, rfl, hS11⟩;refine Nxt.frz (Frz.le.refl _) hS11.agree ?_;refine qx (E_alc (cs := [.i .i64 0, .i .i64 0, .i .i64 0, .i .i64 0]) Ty.zero32 rfl hS11) ?_;rintro _ w12 ⟨g12, rfl, hS12⟩;refine Nxt.frz (Frz.le.refl _) hS12.agree ?_;refine qu (E_bst (c := [.i .i64 x7.pool, .i .i64 x7.epoch, .i .i64 x7.state, .i .i64 x7.files]) 1 ([.i .i64 x7.pool, .i .i64 x7.epoch, .i .i64 x7.state, .i .i64 x7.files]) rfl rfl hS12 rfl rfl Ty.size32 rfl rfl rfl) ?_;rintro _ w15 hS15;refine Nxt.frz (Frz.le.refl _) hS15.agree ?_;refine qu (E_bst (c := [.i .i64 x9.pool, .i .i64 x9.epoch, .i .i64 x9.state, .i .i64 x9.files]) 0 ([.i .i64 x9.pool, .i .i64 x9.epoch, .i .i64 x9.state, .i .i64 x9.files]) rfl rfl hS15 rfl rfl Ty.size32 rfl rfl rfl) ?_;rintro _ w16 hS16;refine Nxt.frz (Frz.le.refl _) hS16.agree ?_;refine qn ?_;refine qs ?_;refine qf Ty.field32_0 ?_;refine qb 1 Ty.cell3 hS16 ?_;refine qf Ty.field32_0 ?_;refine qb 0 Ty.cell3 hS16 ?_;refine qr (O_bin rfl rfl bI_neq) ?_;refine qc ?_;refine W_gs (v := pl g11 (0 + 1)) rfl rfl rfl rfl (fun ⟨hb17, _⟩ => ?_) ?_
     ·rw [hb17];intro hK;refine qf Ty.field32_1 ?_;exact hK
     refine W_gs (v := .i .i64 x7.epoch) rfl rfl rfl rfl (fun ⟨hb18, _⟩ => ?_) ?_
     ·rw [hb18];intro hK;refine qb 1 Ty.cell3 hS16 ?_;exact hK
     refine W_gs (v := pl g12 (0 + 1)) rfl rfl rfl rfl (fun ⟨hb19, _⟩ => ?_) ?_
     ·rw [hb19];intro hK;refine qf Ty.field32_1 ?_;exact hK
     refine W_gs (v := .i .i64 x9.epoch) rfl rfl rfl rfl (fun ⟨hb20, _⟩ => ?_) ?_
     ·rw [hb20];intro hK;refine qb 0 Ty.cell3 hS16 ?_;exact hK
     refine W_gs (v := .b (decide (x7.epoch ≠ x9.epoch))) rfl rfl rfl rfl (fun ⟨hb21, _⟩ => ?_) ?_
     ·rw [hb21];intro hK;refine qr (O_bin rfl rfl bI_neq) ?_;exact hK
     refine W_pkO rfl rfl rfl rfl rfl rfl (fun hc => by rw [hc]; rfl) ?_;refine qc ?_;refine W_gs (v := pl g11 (0 + 2)) rfl rfl rfl rfl (fun ⟨hb22, _⟩ => ?_) ?_
     ·rw [hb22];intro hK;refine qf Ty.field32_2 ?_;exact hK
     refine W_gs (v := .i .i64 x7.state) rfl rfl rfl rfl (fun ⟨hb23, _⟩ => ?_) ?_
     ·rw [hb23];intro hK;refine qb 1 Ty.cell3 hS16 ?_;exact hK
     refine W_gs (v := pl g12 (0 + 2)) rfl rfl rfl rfl (fun ⟨hb24, _⟩ => ?_) ?_
     ·rw [hb24];intro hK;refine qf Ty.field32_2 ?_;exact hK
     refine W_gs (v := .i .i64 x9.state) rfl rfl rfl rfl (fun ⟨hb25, _⟩ => ?_) ?_
     ·rw [hb25];intro hK;refine qb 0 Ty.cell3 hS16 ?_;exact hK
     refine W_gs (v := .b (decide (x7.state ≠ x9.state))) rfl rfl rfl rfl (fun ⟨hb26, _⟩ => ?_) ?_
     ·rw [hb26];intro hK;refine qr (O_bin rfl rfl bI_neq) ?_;exact hK
     refine W_pkO rfl rfl rfl rfl rfl rfl (fun hc => by rw [hc]; rfl) ?_;refine qc ?_;refine W_gs (v := pl g11 (0 + 3)) rfl rfl rfl rfl (fun ⟨hb27, _⟩ => ?_) ?_
     ·rw [hb27];intro hK;refine qf Ty.field32_3 ?_;exact hK
     refine W_gs (v := .i .i64 x7.files) rfl rfl rfl rfl (fun ⟨hb28, _⟩ => ?_) ?_
     ·rw [hb28];intro hK;refine qb 1 Ty.cell3 hS16 ?_;exact hK
     refine W_gs (v := pl g12 (0 + 3)) rfl rfl rfl rfl (fun ⟨hb29, _⟩ => ?_) ?_
     ·rw [hb29];intro hK;refine qf Ty.field32_3 ?_;exact hK
     refine W_gs (v := .i .i64 x9.files) rfl rfl rfl rfl (fun ⟨hb30, _⟩ => ?_) ?_
     ·rw [hb30];intro hK;refine qb 0 Ty.cell3 hS16 ?_;exact hK
     refine W_gs (v := .b (decide (x7.files ≠ x9.files))) rfl rfl rfl rfl (fun ⟨hb31, _⟩ => ?_) ?_
     ·rw [hb31];intro hK;refine qr (O_bin rfl rfl bI_neq) ?_;exact hK
     refine W_pkO rfl rfl rfl rfl rfl rfl (fun hc => by rw [hc]; rfl) ?_;refine qn ?_;refine C_cond rfl (fun hc32 => ?_) (fun hc32 => ?_)
     ·rw [if_t hc32] at H;refine qs ?_;refine qm ?_;obtain rfl := oi H;refine C_ret rfl rfl ?_;exact ⟨F3, rfl, hS16.pick [] (by decide)⟩
     ·rw [if_f hc32] at H;refine C_skip ?_;refine N_block ?_;refine N_code ?_;refine qd ?_;refine q3 ?_;refine W_nil ?_;exact N_againM (wr (i4 + 1)) _ H ⟨F3, rfl, le3, hS16.pick [] (by decide)⟩ ⟨rfl, rfl, rfl, trivial⟩
    ·rw [if_f hc6] at H;refine C_exit _ rfl ?_;exact N_join _ ⟨H, ⟨F3, rfl, le3, hS3⟩⟩ trivial
  ·rintro E w2 ⟨H, F2, rfl, le2, hS2⟩;dsimp only [cellarerkeep_Vols.k1] at H;refine qs ?_;refine qm ?_;obtain rfl := oi H;refine C_ret rfl rfl ?_;exact ⟨F2, rfl, hS2⟩
def cellarerkeep_Ids.k1 : Option Bool :=
  some true
def cellarerkeep_Ids.l2 (x0 : List (List UInt8)) (x1 : List (List UInt8)) (rec5 : Int → Option Bool) : Int → Option Bool
  | i4 =>
    if decide (i4 < (x0.length : Int)) then
      bd (ix x0 i4) fun x7 =>
      bd (ix x1 i4) fun x9 =>
      if (!decide (x7 = x9)) then
        some false
      else
        rec5 (wr (i4 + 1))
    else
      cellarerkeep_Ids.k1
def cellarerkeep_Ids (x0 : List (List UInt8)) (x1 : List (List UInt8)) : Option Bool :=
  if decide ((x0.length : Int) ≠ (x1.length : Int)) then
    some false
  else
    loop (cellarerkeep_Ids.l2 x0 x1) 0
set_option maxRecDepth 100000 in
theorem cellarerkeep_Ids_ok {K : Tb} {F : Frz} {w : Hp} {x0 : List (List UInt8)} {x1 : List (List UInt8)} {r : Bool} {v0 : Val} {v1 : Val} (hA : Gd F w) (h0 : SlF tId F v0 x0) (h1 : SlF tId F v1 x1) (H : cellarerkeep_Ids x0 x1 = some r) : Ret Tryz.prog K 155 [v0, v1] w fun v w' => ∃ (F' : Frz), v = .b r ∧ St [] w F F' [] w' := by
 refine qa2 Tryz.func155 ?_;have hS := St.start hA;dsimp only [cellarerkeep_Ids] at H;refine qs ?_;refine qm ?_;refine C_seq ?_;refine qs ?_;refine qc ?_;refine qr (O_len Tryz.underlying118 rfl h0.ln) ?_;refine qc ?_;refine qr (O_len Tryz.underlying118 rfl h1.ln) ?_;refine qr (O_bin rfl rfl bI_neq) ?_;refine qn ?_;refine C_cond rfl (fun hc1 => ?_) (fun hc1 => ?_)
 ·rw [if_t hc1] at H;refine qs ?_;refine qm ?_;obtain rfl := oi H;refine C_ret rfl rfl ?_;exact ⟨F, rfl, hS⟩
 ·rw [if_f hc1] at H;refine qk ?_;refine C_seq_join (fun E wq => cellarerkeep_Ids.k1 = some r ∧ ∃ (F2 : Frz), E = [] ∧ F.le F2 ∧ St [] w F F2 [] wq) ?_ ?_
  ·refine qs ?_;refine qm ?_;refine C_block ?_;refine C_loopM (fun (s : Int) E wq => ∃ (F3 : Frz), E = [(0, v0), (1, v1), (5, .i .i64 s)] ∧ F.le F3 ∧ St [] w F F3 [] wq) H ?_ ?_
   ·exact ⟨_, ⟨F, rfl, (Frz.le.refl _), hS⟩, ⟨rfl, rfl, rfl, trivial⟩⟩
   ·rintro rec5 i4 E w3 hI H
    try dsimp only at hI
    obtain ⟨F3, rfl, le3, hS3⟩ := hI;dsimp only [cellarerkeep_Ids.l2] at H;refine C_seq ?_;refine qs ?_;refine q2 ?_;refine qr (O_len Tryz.underlying118 rfl h0.ln) ?_;refine qr (O_bin rfl rfl bI_lss) ?_;refine qn ?_;refine C_cond rfl (fun hc6 => ?_) (fun hc6 => ?_)
    ·rw [if_t hc6] at H;refine qk ?_;refine C_seq ?_;refine C_block ?_;refine C_seq ?_;obtain ⟨x7, hx7, H⟩ := bd_some H;obtain ⟨x9, hx9, H⟩ := bd_some H;refine C_regionD (G := (nowF _)) [0, 1, 2, 3, 4, 5, 6, 7, 8] rfl Ty.mixed (by kernel_rfl) (nowF_agree _) ?_;refine q2 ?_;obtain ⟨hp11, hy11⟩ := ix_some hx7;obtain ⟨cs11, hr11, he11⟩ := (h0.mono le3).el hy11;obtain ⟨rfl, hle8⟩ := hr11;replace he11 : Elf _ _ 32 _ _ := he11;have hi11 := he11.ixd;refine qi Tryz.underlying118 Ty.size58 hi11 hp11 ?_;refine qr (O_ldg 0 (idCells x7) Ty.agg58 Ty.size58 rfl (he11.mono hS3.agree) (by omega) rfl (Nat.le_of_ble_eq_true rfl)) ?_;refine q2 ?_;obtain ⟨hp12, hy12⟩ := ix_some hx9;obtain ⟨cs12, hr12, he12⟩ := (h1.mono le3).el hy12;obtain ⟨rfl, hle10⟩ := hr12;replace he12 : Elf _ _ 32 _ _ := he12;have hi12 := he12.ixd;refine qi Tryz.underlying118 Ty.size58 hi12 hp12 ?_;refine qr (O_ldg 0 (idCells x9) Ty.agg58 Ty.size58 rfl (he12.mono hS3.agree) (by omega) rfl (Nat.le_of_ble_eq_true rfl)) ?_;refine qr (O_bin rfl rfl (bA_neq Ty.eqt58 rfl rfl (eqL_id hle8 hle10))) ?_;refine qn ?_;refine C_cond rfl (fun hc13 => ?_) (fun hc13 => ?_)
     ·rw [if_t hc13] at H;refine qs ?_;refine qm ?_;obtain rfl := oi H;refine C_ret rfl rfl ?_;exact ⟨F3, rfl, hS3⟩
     ·rw [if_f hc13] at H;refine C_skip ?_;refine N_block ?_;refine N_code ?_;refine qd ?_;refine q3 ?_;refine W_nil ?_;exact N_againM (wr (i4 + 1)) _ H ⟨F3, rfl, le3, hS3⟩ ⟨rfl, rfl, rfl, trivial⟩
    ·rw [if_f hc6] at H;refine C_exit _ rfl ?_;exact N_join _ ⟨H, ⟨F3, rfl, le3, hS3⟩⟩ trivial
  ·rintro E w2 ⟨H, F2, rfl, le2, hS2⟩;dsimp only [cellarerkeep_Ids.k1] at H;refine qs ?_;refine qm ?_;obtain rfl := oi H;refine C_ret rfl rfl ?_;exact ⟨F2, rfl, hS2⟩
def cellarerkeep_Manifest.k1 : Option Bool :=
  some true
def cellarerkeep_Manifest.l2 (x0 : Manifest) (x1 : Manifest) (rec14 : Int → Option Bool) : Int → Option Bool
  | i13 =>
    if decide (i13 < (x0.parts.length : Int)) then
      bd (ix x0.parts i13) fun x16 =>
      bd (ix x1.parts i13) fun x18 =>
      bd (only (!((!(x16.path == x18.path)) || decide (x16.size ≠ x18.size))) (cellarerkeep_Ids x16.ids x18.ids) false) fun r27 =>
      if (((!(x16.path == x18.path)) || decide (x16.size ≠ x18.size)) || (!r27)) then
        some false
      else
        rec14 (wr (i13 + 1))
    else
      cellarerkeep_Manifest.k1
def cellarerkeep_Manifest (x0 : Manifest) (x1 : Manifest) : Option Bool :=
  if ((!(x0.name == x1.name)) || decide ((x0.parts.length : Int) ≠ (x1.parts.length : Int))) then
    some false
  else
    loop (cellarerkeep_Manifest.l2 x0 x1) 0
set_option maxRecDepth 100000 in
theorem cellarerkeep_Manifest_ok {K : Tb} {F : Frz} {w : Hp} {x0 : Manifest} {x1 : Manifest} {r : Bool} {v0_0 : Val} {v1_0 : Val} (hA : Gd F w) (h0_0 : SlF Part.t F v0_0 x0.parts) (h1_0 : SlF Part.t F v1_0 x1.parts) (H : cellarerkeep_Manifest x0 x1 = some r) : Ret Tryz.prog K 108 [.agg (Manifest.cells x0 v0_0), .agg (Manifest.cells x1 v1_0)] w fun v w' => ∃ (F' : Frz), v = .b r ∧ St [] w F F' [] w' := by
 refine qa2 Tryz.func108 ?_;have hS := St.start hA;dsimp only [cellarerkeep_Manifest] at H;refine qs ?_;refine xm (E_bx (cs := [.s x0.name, v0_0]) rfl rfl (by simp only [List.all_cons, List.all_nil, List.all_append, h0_0.ln.one]; rfl) hS) ?_;rintro _ w1 ⟨g1, rfl, hS1⟩;refine xm (E_bx (cs := [.s x1.name, v1_0]) rfl rfl (by simp only [List.all_cons, List.all_nil, List.all_append, h1_0.ln.one]; rfl) hS1) ?_;rintro _ w2 ⟨g2, rfl, hS2⟩;refine qm ?_;refine C_seq ?_;refine qs ?_;refine qf Ty.field43_0 ?_;refine qb 1 Ty.cell9 hS2 ?_;refine qf Ty.field43_0 ?_;refine qb 0 Ty.cell9 hS2 ?_;refine qr (O_bin rfl rfl bS_neq) ?_;refine qc ?_;refine W_gs (v := pl g1 (0 + 1)) rfl rfl rfl rfl (fun ⟨hb3, _⟩ => ?_) ?_
 ·rw [hb3];intro hK;refine qf Ty.field43_1 ?_;exact hK
 refine W_gs (v := v0_0) rfl rfl rfl rfl (fun ⟨hb4, _⟩ => ?_) ?_
 ·rw [hb4];intro hK;refine qb 1 Ty.cell41 hS2 ?_;exact hK
 refine W_gs (v := .i .i64 (x0.parts.length : Int)) rfl rfl rfl rfl (fun ⟨hb5, _⟩ => ?_) ?_
 ·rw [hb5];intro hK;refine qr (O_len Tryz.underlying41 rfl h0_0.ln) ?_;exact hK
 refine W_gs (v := pl g2 (0 + 1)) rfl rfl rfl rfl (fun ⟨hb6, _⟩ => ?_) ?_
 ·rw [hb6];intro hK;refine qf Ty.field43_1 ?_;exact hK
 refine W_gs (v := v1_0) rfl rfl rfl rfl (fun ⟨hb7, _⟩ => ?_) ?_
 ·rw [hb7];intro hK;refine qb 0 Ty.cell41 hS2 ?_;exact hK
 refine W_gs (v := .i .i64 (x1.parts.length : Int)) rfl rfl rfl rfl (fun ⟨hb8, _⟩ => ?_) ?_
 ·rw [hb8];intro hK;refine qr (O_len Tryz.underlying41 rfl h1_0.ln) ?_;exact hK
 refine W_gs (v := .b (decide ((x0.parts.length : Int) ≠ (x1.parts.length : Int)))) rfl rfl rfl rfl (fun ⟨hb9, _⟩ => ?_) ?_
 ·rw [hb9];intro hK;refine qr (O_bin rfl rfl bI_neq) ?_;exact hK
 refine W_pkO rfl rfl rfl rfl rfl rfl (fun hc => by rw [hc]; rfl) ?_;refine qn ?_;refine C_cond rfl (fun hc10 => ?_) (fun hc10 => ?_)
 ·rw [if_t hc10] at H;refine qs ?_;refine qm ?_;obtain rfl := oi H;refine C_ret rfl rfl ?_;exact ⟨F, rfl, hS2.pick [] (by decide)⟩
 ·rw [if_f hc10] at H;refine qk ?_;refine C_seq_join (fun E wq => cellarerkeep_Manifest.k1 = some r ∧ ∃ (F11 : Frz), E = [] ∧ F.le F11 ∧ St [] w F F11 [] wq) ?_ ?_
  ·refine qs ?_;refine qm ?_;refine C_block ?_;refine C_loopM (fun (s : Int) E wq => ∃ (F12 : Frz), E = [(2, pl g1 0), (3, pl g2 0), (5, .i .i64 s)] ∧ F.le F12 ∧ St [] w F F12 [.box g2 [.s x1.name, v1_0], .box g1 [.s x0.name, v0_0]] wq) H ?_ ?_
   ·exact ⟨_, ⟨F, rfl, (Frz.le.refl _), hS2⟩, ⟨rfl, rfl, rfl, trivial⟩⟩
   ·rintro rec14 i13 E w12 hI H
    try dsimp only at hI
    obtain ⟨F12, rfl, le12, hS12⟩ := hI;dsimp only [cellarerkeep_Manifest.l2] at H;refine C_seq ?_;refine qs ?_;refine qc ?_;refine qf Ty.field43_1 ?_;refine qb 1 Ty.cell41 hS12 ?_;refine qr (O_len Tryz.underlying41 rfl h0_0.ln) ?_;refine qr (O_bin rfl rfl bI_lss) ?_;refine qn ?_;refine C_cond rfl (fun hc15 => ?_) (fun hc15 => ?_)
    ·rw [if_t hc15] at H;refine qk ?_;refine C_seq ?_;refine C_block ?_;refine C_seq ?_;obtain ⟨x16, hx16, H⟩ := bd_some H;obtain ⟨x18, hx18, H⟩ := bd_some H;have hb22 := hS12.boxAt 0 rfl;refine C_regionD (G := (F12.hold w12 [g2])) [0, 1, 2, 3, 4, 5, 6, 7, 8, 9, 10, 11, 12, 13] rfl Ty.mixed (by kernel_rfl) (HB.agree (HB.cons 0 hb22 hS12 rfl HB.nil) hS12.agree) ?_;refine qf Ty.field43_1 ?_;refine qbq 1 Ty.cell41 hS12 ?_;refine qc ?_;obtain ⟨hp23, hy23⟩ := ix_some hx16;obtain ⟨cs23, hr23, he23⟩ := (h0_0.mono le12).el hy23;obtain ⟨ue17_0, rfl, hue17_0⟩ := hr23;replace he23 : Elf _ _ 3 _ _ := he23;have hi23 := he23.ixd;refine qi Tryz.underlying41 Ty.size138 hi23 hp23 ?_;refine qq (O_ldg 0 (Part.cells x16 ue17_0) Ty.agg138 Ty.size138 rfl (he23.mono hS12.agree) (by omega) rfl (Nat.le_of_ble_eq_true rfl)) ?_;refine qf Ty.field43_1 ?_;refine qr (O_fld1 Ty.cell41 rfl (hb22.held (HB.cons 0 hb22 hS12 rfl HB.nil) (by simp)) rfl) ?_;refine qc ?_;obtain ⟨hp24, hy24⟩ := ix_some hx18;obtain ⟨cs24, hr24, he24⟩ := (h1_0.mono le12).el hy24;obtain ⟨ue19_0, rfl, hue19_0⟩ := hr24;replace he24 : Elf _ _ 3 _ _ := he24;have hi24 := he24.ixd;refine qi Tryz.underlying41 Ty.size138 hi24 hp24 ?_;refine qr (O_ldg 0 (Part.cells x18 ue19_0) Ty.agg138 Ty.size138 rfl (he24.mono (Frz.le_hold _ _ _)) (by omega) rfl (Nat.le_of_ble_eq_true rfl)) ?_;refine qx (E_alc (cs := [.s [], .i .i64 0, .sl none 0 (.k 0)]) Ty.zero138 rfl hS12) ?_;rintro _ w20 ⟨g20, rfl, hS20⟩;refine qh 1 hb22 hS20 ?_;refine qx (E_alc (cs := [.s [], .i .i64 0, .sl none 0 (.k 0)]) Ty.zero138 rfl hS20) ?_;rintro _ w21 ⟨g21, rfl, hS21⟩;refine qh 2 hb22 hS21 ?_;refine qu (E_bst (c := [.s x16.path, .i .i64 x16.size, ue17_0]) 1 ([.s x16.path, .i .i64 x16.size, ue17_0]) rfl rfl hS21 rfl rfl Ty.size138 (by simp only [List.all_cons, List.all_nil, List.all_append, hue17_0.ln.one]; rfl) rfl rfl) ?_;rintro _ w25 hS25;refine qh 2 hb22 hS25 ?_;refine qu (E_bst (c := [.s x18.path, .i .i64 x18.size, ue19_0]) 0 ([.s x18.path, .i .i64 x18.size, ue19_0]) rfl rfl hS25 rfl rfl Ty.size138 (by simp only [List.all_cons, List.all_nil, List.all_append, hue19_0.ln.one]; rfl) rfl rfl) ?_;rintro _ w26 hS26;refine qh 2 hb22 hS26 ?_;refine qn ?_;refine C_seq ?_;obtain ⟨r27, hr27, H⟩ := bd_some H;refine qd ?_;refine qf Ty.field138_0 ?_;refine qb 1 Ty.cell9 hS26 ?_;refine qf Ty.field138_0 ?_;refine qb 0 Ty.cell9 hS26 ?_;refine qr (O_bin rfl rfl bS_neq) ?_;refine qc ?_;refine W_gs (v := pl g20 (0 + 1)) rfl rfl rfl rfl (fun ⟨hb28, _⟩ => ?_) ?_
     ·rw [hb28];intro hK;refine qf Ty.field138_1 ?_;exact hK
     refine W_gs (v := .i .i64 x16.size) rfl rfl rfl rfl (fun ⟨hb29, _⟩ => ?_) ?_
     ·rw [hb29];intro hK;refine qb 1 Ty.cell3 hS26 ?_;exact hK
     refine W_gs (v := pl g21 (0 + 1)) rfl rfl rfl rfl (fun ⟨hb30, _⟩ => ?_) ?_
     ·rw [hb30];intro hK;refine qf Ty.field138_1 ?_;exact hK
     refine W_gs (v := .i .i64 x18.size) rfl rfl rfl rfl (fun ⟨hb31, _⟩ => ?_) ?_
     ·rw [hb31];intro hK;refine qb 0 Ty.cell3 hS26 ?_;exact hK
     refine W_gs (v := .b (decide (x16.size ≠ x18.size))) rfl rfl rfl rfl (fun ⟨hb32, _⟩ => ?_) ?_
     ·rw [hb32];intro hK;refine qr (O_bin rfl rfl bI_neq) ?_;exact hK
     refine W_pkO rfl rfl rfl rfl rfl rfl (fun hc => by rw [hc]; rfl) ?_;refine qc ?_;refine W_gs (v := pl g20 (0 + 2)) rfl rfl rfl rfl (fun ⟨hb33, _⟩ => ?_) ?_
     ·rw [hb33];intro hK;refine qf Ty.field138_2 ?_;exact hK
     refine W_gs (v := ue17_0) rfl rfl rfl rfl (fun ⟨hb34, _⟩ => ?_) ?_
     ·rw [hb34];intro hK;refine qb 1 Ty.cell118 hS26 ?_;exact hK
     refine W_gs (v := pl g21 (0 + 2)) rfl rfl rfl rfl (fun ⟨hb35, _⟩ => ?_) ?_
     ·rw [hb35];intro hK;refine qf Ty.field138_2 ?_;exact hK
     refine W_gs (v := ue19_0) rfl rfl rfl rfl (fun ⟨hb36, _⟩ => ?_) ?_
     ·rw [hb36];intro hK;refine qb 0 Ty.cell118 hS26 ?_;exact hK
     obtain ⟨Q38, hQ38⟩ : ∃ Q : Hp → Prop, Q = fun wq => St [] w F F12 [.box g21 [.s x18.path, .i .i64 x18.size, ue19_0], .box g20 [.s x16.path, .i .i64 x16.size, ue17_0], .box g2 [.s x1.name, v1_0], .box g1 [.s x0.name, v0_0]] wq := ⟨_, rfl⟩;refine W_gw (v := .b r27) (Q := Q38) (by rw [hQ38]; exact hS26) rfl rfl rfl rfl (fun ⟨hb37, _⟩ => ?_) ?_
     ·rw [hb37];intro hK;have hy39 := hr27;rw [only_t (by first | rfl | (rw [hb37]; first | done | rfl) | simp [hb37])] at hy39;refine ql (cellarerkeep_Ids_ok hS26.good hue17_0 hue19_0 hy39) ?_;rintro v40 w40 ⟨Fr27, rfl, hT40⟩;have hS40 := hS26.lent hT40;exact hK _ (by rw [hQ38]; exact hS40)
     intro w41 hS41;rw [hQ38] at hS41;refine Nxt.now ?_;refine W_gs (v := .b (!r27)) rfl rfl rfl rfl (fun ⟨hb42, _⟩ => ?_) ?_
     ·rw [hb42];intro hK;refine qc ?_;exact hK
     refine W_pkO rfl rfl rfl rfl rfl rfl (fun hc => by rw [hc]; rfl) ?_;refine qn ?_;refine C_cond rfl (fun hc43 => ?_) (fun hc43 => ?_)
     ·rw [if_t hc43] at H;refine qs ?_;refine qm ?_;obtain rfl := oi H;refine C_ret rfl rfl ?_;exact ⟨F12, rfl, hS41.pick [] (by decide)⟩
     ·rw [if_f hc43] at H;refine C_skip ?_;refine N_block ?_;refine N_code ?_;refine qd ?_;refine q3 ?_;refine W_nil ?_;exact N_againM (wr (i13 + 1)) _ H ⟨F12, rfl, le12, hS41.pick [2, 3] (by decide)⟩ ⟨rfl, rfl, rfl, trivial⟩
    ·rw [if_f hc15] at H;refine C_exit _ rfl ?_;exact N_join _ ⟨H, ⟨F12, rfl, le12, hS12.pick [] (by decide)⟩⟩ trivial
  ·rintro E w11 ⟨H, F11, rfl, le11, hS11⟩;dsimp only [cellarerkeep_Manifest.k1] at H;refine qs ?_;refine qm ?_;obtain rfl := oi H;refine C_ret rfl rfl ?_;exact ⟨F11, rfl, hS11⟩
def cellarerkeep_Snap (x0 : Snap) (x1 : Snap) : Option Bool :=
  bd (only (decide (x0.seq = x1.seq)) (cellarerkeep_Manifest x0.man x1.man) false) fun r3 =>
  bd (only (decide (x0.seq = x1.seq) && r3) (cellarerkeep_Locs x0.locs x1.locs) false) fun r4 =>
  some ((decide (x0.seq = x1.seq) && r3) && r4)
set_option maxRecDepth 100000 in
theorem cellarerkeep_Snap_ok {K : Tb} {F : Frz} {w : Hp} {x0 : Snap} {x1 : Snap} {r : Bool} {v0_0 : Val} {v0_1 : Val} {v1_0 : Val} {v1_1 : Val} (hA : Gd F w) (h0_0 : SlF Part.t F v0_0 x0.man.parts) (h0_1 : SlF Loc.t F v0_1 x0.locs) (h1_0 : SlF Part.t F v1_0 x1.man.parts) (h1_1 : SlF Loc.t F v1_1 x1.locs) (H : cellarerkeep_Snap x0 x1 = some r) : Ret Tryz.prog K 50 [.agg (Snap.cells x0 v0_0 v0_1), .agg (Snap.cells x1 v1_0 v1_1)] w fun v w' => ∃ (F' : Frz), v = .b r ∧ St [] w F F' [] w' := by
 refine qa2 Tryz.func50 ?_;have hS := St.start hA;dsimp only [cellarerkeep_Snap] at H;refine qs ?_;refine xm (E_bx (cs := [.i .i64 x0.seq, .s x0.man.name, v0_0, v0_1]) rfl rfl (by simp only [List.all_cons, List.all_nil, List.all_append, h0_0.ln.one, h0_1.ln.one]; rfl) hS) ?_;rintro _ w1 ⟨g1, rfl, hS1⟩;refine xm (E_bx (cs := [.i .i64 x1.seq, .s x1.man.name, v1_0, v1_1]) rfl rfl (by simp only [List.all_cons, List.all_nil, List.all_append, h1_0.ln.one, h1_1.ln.one]; rfl) hS1) ?_;rintro _ w2 ⟨g2, rfl, hS2⟩;refine qm ?_;refine C_seq ?_;obtain ⟨r3, hr3, H⟩ := bd_some H;obtain ⟨r4, hr4, H⟩ := bd_some H;refine qd ?_;refine qf Ty.field46_0 ?_;refine qb 1 Ty.cell3 hS2 ?_;refine qf Ty.field46_0 ?_;refine qb 0 Ty.cell3 hS2 ?_;refine qr (O_bin rfl rfl bI_eql) ?_;refine qc ?_;refine W_gs (v := pl g1 (0 + 1)) rfl rfl rfl rfl (fun ⟨hb5, _⟩ => ?_) ?_
 ·rw [hb5];intro hK;refine qf Ty.field46_1 ?_;exact hK
 refine W_gs (v := .agg (Manifest.cells x0.man v0_0)) rfl rfl rfl rfl (fun ⟨hb6, _⟩ => ?_) ?_
 ·rw [hb6];intro hK;refine qr (O_bldg 1 (Manifest.cells x0.man v0_0) Ty.agg43 Ty.size43 (Nat.zero_lt_succ _) rfl hS2 rfl (fun q u h => sub_at (post := [v0_1]) rfl h)) ?_;exact hK
 refine W_gs (v := pl g2 (0 + 1)) rfl rfl rfl rfl (fun ⟨hb7, _⟩ => ?_) ?_
 ·rw [hb7];intro hK;refine qf Ty.field46_1 ?_;exact hK
 refine W_gs (v := .agg (Manifest.cells x1.man v1_0)) rfl rfl rfl rfl (fun ⟨hb8, _⟩ => ?_) ?_
 ·rw [hb8];intro hK;refine qr (O_bldg 0 (Manifest.cells x1.man v1_0) Ty.agg43 Ty.size43 (Nat.zero_lt_succ _) rfl hS2 rfl (fun q u h => sub_at (post := [v1_1]) rfl h)) ?_;exact hK
 obtain ⟨Q10, hQ10⟩ : ∃ Q : Hp → Prop, Q = fun wq => St [] w F F [.box g2 [.i .i64 x1.seq, .s x1.man.name, v1_0, v1_1], .box g1 [.i .i64 x0.seq, .s x0.man.name, v0_0, v0_1]] wq := ⟨_, rfl⟩;refine W_gw (v := .b r3) (Q := Q10) (by rw [hQ10]; exact hS2) rfl rfl rfl rfl (fun ⟨hb9, _⟩ => ?_) ?_
 ·rw [hb9];intro hK;have hy11 := hr3;rw [only_t hb9] at hy11;refine ql (cellarerkeep_Manifest_ok hS2.good h0_0 h1_0 hy11) ?_;rintro v12 w12 ⟨Fr3, rfl, hT12⟩;have hS12 := hS2.lent hT12;exact hK _ (by rw [hQ10]; exact hS12)
 intro w13 hS13;rw [hQ10] at hS13;refine Nxt.now ?_;refine W_pkA rfl rfl rfl rfl rfl (fun hc => by rw [hc]; rfl) rfl ?_;refine qc ?_;refine W_gs (v := pl g1 (0 + 3)) rfl rfl rfl rfl (fun ⟨hb14, _⟩ => ?_) ?_
 ·rw [hb14];intro hK;refine qf Ty.field46_2 ?_;exact hK
 refine W_gs (v := v0_1) rfl rfl rfl rfl (fun ⟨hb15, _⟩ => ?_) ?_
 ·rw [hb15];intro hK;refine qb 1 Ty.cell44 hS13 ?_;exact hK
 refine W_gs (v := pl g2 (0 + 3)) rfl rfl rfl rfl (fun ⟨hb16, _⟩ => ?_) ?_
 ·rw [hb16];intro hK;refine qf Ty.field46_2 ?_;exact hK
 refine W_gs (v := v1_1) rfl rfl rfl rfl (fun ⟨hb17, _⟩ => ?_) ?_
 ·rw [hb17];intro hK;refine qb 0 Ty.cell44 hS13 ?_;exact hK
 obtain ⟨Q19, hQ19⟩ : ∃ Q : Hp → Prop, Q = fun wq => St [] w F F [.box g2 [.i .i64 x1.seq, .s x1.man.name, v1_0, v1_1], .box g1 [.i .i64 x0.seq, .s x0.man.name, v0_0, v0_1]] wq := ⟨_, rfl⟩;refine W_gw (v := .b r4) (Q := Q19) (by rw [hQ19]; exact hS13) rfl rfl rfl rfl (fun ⟨hb18, _⟩ => ?_) ?_
 ·rw [hb18];intro hK;have hy20 := hr4;rw [only_t hb18] at hy20;refine ql (cellarerkeep_Locs_ok hS13.good h0_1 h1_1 hy20) ?_;rintro v21 w21 ⟨Fr4, rfl, hT21⟩;have hS21 := hS13.lent hT21;exact hK _ (by rw [hQ19]; exact hS21)
 intro w22 hS22;rw [hQ19] at hS22;refine Nxt.now ?_;refine W_pkA rfl rfl rfl rfl rfl (fun hc => by rw [hc]; rfl) rfl ?_;refine qm ?_;obtain rfl := oi H;refine C_ret rfl rfl ?_;exact ⟨F, rfl, hS22.pick [] (by decide)⟩
def cellarerkeep_Catalog.k2 : Option Bool :=
  some true
def cellarerkeep_Catalog.l3 (x0 : Catalog) (x1 : Catalog) (rec37 : Int → Option Bool) : Int → Option Bool
  | i36 =>
    if decide (i36 < (x0.exps.length : Int)) then
      bd (ix x0.exps i36) fun x39 =>
      bd (ix x1.exps i36) fun x41 =>
      bd (only (!(decide (x39.seq ≠ x41.seq) || decide (x39.of ≠ x41.of))) (cellarerkeep_Locs x39.locs x41.locs) false) fun r50 =>
      if ((decide (x39.seq ≠ x41.seq) || decide (x39.of ≠ x41.of)) || (!r50)) then
        some false
      else
        rec37 (wr (i36 + 1))
    else
      cellarerkeep_Catalog.k2
def cellarerkeep_Catalog.k1 (x0 : Catalog) (x1 : Catalog) : Option Bool :=
  loop (cellarerkeep_Catalog.l3 x0 x1) 0
def cellarerkeep_Catalog.l4 (x0 : Catalog) (x1 : Catalog) (rec69 : Int → Option Bool) : Int → Option Bool
  | i68 =>
    if decide (i68 < (x0.snaps.length : Int)) then
      bd (ix x0.snaps i68) fun x71 =>
      bd (ix x1.snaps i68) fun x73 =>
      bd (cellarerkeep_Snap x71 x73) fun r75 =>
      if (!r75) then
        some false
      else
        rec69 (wr (i68 + 1))
    else
      cellarerkeep_Catalog.k1 x0 x1
def cellarerkeep_Catalog (x0 : Catalog) (x1 : Catalog) : Option Bool :=
  bd (only (!(decide ((x0.snaps.length : Int) ≠ (x1.snaps.length : Int)) || decide ((x0.exps.length : Int) ≠ (x1.exps.length : Int)))) (cellarerkeep_Chunks x0.chunks x1.chunks) false) fun r3 =>
  bd (only (!((decide ((x0.snaps.length : Int) ≠ (x1.snaps.length : Int)) || decide ((x0.exps.length : Int) ≠ (x1.exps.length : Int))) || (!r3))) (cellarerkeep_Vols x0.vols x1.vols) false) fun r4 =>
  if (((decide ((x0.snaps.length : Int) ≠ (x1.snaps.length : Int)) || decide ((x0.exps.length : Int) ≠ (x1.exps.length : Int))) || (!r3)) || (!r4)) then
    some false
  else
    loop (cellarerkeep_Catalog.l4 x0 x1) 0
set_option maxRecDepth 100000 in
set_option maxHeartbeats 2000000 in
theorem cellarerkeep_Catalog_ok {K : Tb} {F : Frz} {w : Hp} {x0 : Catalog} {x1 : Catalog} {r : Bool} {v0_0 : Val} {v0_1 : Val} {v0_2 : Val} {v0_3 : Val} {v1_0 : Val} {v1_1 : Val} {v1_2 : Val} {v1_3 : Val} (hA : Gd F w) (h0_0 : SlF Snap.t F v0_0 x0.snaps) (h0_1 : SlF Chunk.t F v0_1 x0.chunks) (h0_2 : SlF Exp.t F v0_2 x0.exps) (h0_3 : SlF Vol.t F v0_3 x0.vols) (h1_0 : SlF Snap.t F v1_0 x1.snaps) (h1_1 : SlF Chunk.t F v1_1 x1.chunks) (h1_2 : SlF Exp.t F v1_2 x1.exps) (h1_3 : SlF Vol.t F v1_3 x1.vols) (H : cellarerkeep_Catalog x0 x1 = some r) : Ret Tryz.prog K 13 [.agg (Catalog.cells x0 v0_0 v0_1 v0_2 v0_3), .agg (Catalog.cells x1 v1_0 v1_1 v1_2 v1_3)] w fun v w' => ∃ (F' : Frz), v = .b r ∧ St [] w F F' [] w' := by
 refine qa2 Tryz.func13 ?_;have hS := St.start hA;dsimp only [cellarerkeep_Catalog] at H;refine qs ?_;refine xm (E_bx (cs := [.i .i64 x0.seq, v0_0, v0_1, v0_2, v0_3]) rfl rfl (by simp only [List.all_cons, List.all_nil, List.all_append, h0_0.ln.one, h0_1.ln.one, h0_2.ln.one, h0_3.ln.one]; rfl) hS) ?_;rintro _ w1 ⟨g1, rfl, hS1⟩;refine xm (E_bx (cs := [.i .i64 x1.seq, v1_0, v1_1, v1_2, v1_3]) rfl rfl (by simp only [List.all_cons, List.all_nil, List.all_append, h1_0.ln.one, h1_1.ln.one, h1_2.ln.one, h1_3.ln.one]; rfl) hS1) ?_;rintro _ w2 ⟨g2, rfl, hS2⟩;refine qm ?_;refine C_seq ?_;refine C_seq ?_;obtain ⟨r3, hr3, H⟩ := bd_some H;obtain ⟨r4, hr4, H⟩ := bd_some H;refine qd ?_;refine qf Ty.field38_1 ?_;refine qb 1 Ty.cell34 hS2 ?_;refine qr (O_len Tryz.underlying34 rfl h0_0.ln) ?_;refine qf Ty.field38_1 ?_;refine qb 0 Ty.cell34 hS2 ?_;refine qr (O_len Tryz.underlying34 rfl h1_0.ln) ?_;refine qr (O_bin rfl rfl bI_neq) ?_;refine qc ?_;refine W_gs (v := pl g1 (0 + 3)) rfl rfl rfl rfl (fun ⟨hb5, _⟩ => ?_) ?_
 ·rw [hb5];intro hK;refine qf Ty.field38_3 ?_;exact hK
 refine W_gs (v := v0_2) rfl rfl rfl rfl (fun ⟨hb6, _⟩ => ?_) ?_
 ·rw [hb6];intro hK;refine qb 1 Ty.cell36 hS2 ?_;exact hK
 refine W_gs (v := .i .i64 (x0.exps.length : Int)) rfl rfl rfl rfl (fun ⟨hb7, _⟩ => ?_) ?_
 ·rw [hb7];intro hK;refine qr (O_len Tryz.underlying36 rfl h0_2.ln) ?_;exact hK
 refine W_gs (v := pl g2 (0 + 3)) rfl rfl rfl rfl (fun ⟨hb8, _⟩ => ?_) ?_
 ·rw [hb8];intro hK;refine qf Ty.field38_3 ?_;exact hK
 refine W_gs (v := v1_2) rfl rfl rfl rfl (fun ⟨hb9, _⟩ => ?_) ?_
 ·rw [hb9];intro hK;refine qb 0 Ty.cell36 hS2 ?_;exact hK
 refine W_gs (v := .i .i64 (x1.exps.length : Int)) rfl rfl rfl rfl (fun ⟨hb10, _⟩ => ?_) ?_
 ·rw [hb10];intro hK;refine qr (O_len Tryz.underlying36 rfl h1_2.ln) ?_;exact hK
 refine W_gs (v := .b (decide ((x0.exps.length : Int) ≠ (x1.exps.length : Int)))) rfl rfl rfl rfl (fun ⟨hb11, _⟩ => ?_) ?_
 ·rw [hb11];intro hK;refine qr (O_bin rfl rfl bI_neq) ?_;exact hK
 refine W_pkO rfl rfl rfl rfl rfl rfl (fun hc => by rw [hc]; rfl) ?_;refine qc ?_;refine W_gs (v := pl g1 (0 + 2)) rfl rfl rfl rfl (fun ⟨hb12, _⟩ => ?_) ?_
 ·rw [hb12];intro hK;refine qf Ty.field38_2 ?_;exact hK
 refine W_gs (v := v0_1) rfl rfl rfl rfl (fun ⟨hb13, _⟩ => ?_) ?_
 ·rw [hb13];intro hK;refine qb 1 Ty.cell35 hS2 ?_;exact hK
 refine W_gs (v := pl g2 (0 + 2)) rfl rfl rfl rfl (fun ⟨hb14, _⟩ => ?_) ?_
 ·rw [hb14];intro hK;refine qf Ty.field38_2 ?_;exact hK
 refine W_gs (v := v1_1) rfl rfl rfl rfl (fun ⟨hb15, _⟩ => ?_) ?_
 ·rw [hb15];intro hK;refine qb 0 Ty.cell35 hS2 ?_;exact hK
 obtain ⟨Q17, hQ17⟩ : ∃ Q : Hp → Prop, Q = fun wq => St [] w F F [.box g2 [.i .i64 x1.seq, v1_0, v1_1, v1_2, v1_3], .box g1 [.i .i64 x0.seq, v0_0, v0_1, v0_2, v0_3]] wq := ⟨_, rfl⟩;refine W_gw (v := .b r3) (Q := Q17) (by rw [hQ17]; exact hS2) rfl rfl rfl rfl (fun ⟨hb16, _⟩ => ?_) ?_
 ·rw [hb16];intro hK;have hy18 := hr3;rw [only_t (by first | rfl | (rw [hb16]; first | done | rfl) | simp [hb16])] at hy18;refine ql (cellarerkeep_Chunks_ok hS2.good h0_1 h1_1 hy18) ?_;rintro v19 w19 ⟨Fr3, rfl, hT19⟩;have hS19 := hS2.lent hT19;exact hK _ (by rw [hQ17]; exact hS19)
 intro w20 hS20;rw [hQ17] at hS20;refine Nxt.now ?_;refine W_gs (v := .b (!r3)) rfl rfl rfl rfl (fun ⟨hb21, _⟩ => ?_) ?_
 ·rw [hb21];intro hK;refine qc ?_;exact hK
 refine W_pkO rfl rfl rfl rfl rfl rfl (fun hc => by rw [hc]; rfl) ?_;refine qc ?_;refine W_gs (v := pl g1 (0 + 4)) rfl rfl rfl rfl (fun ⟨hb22, _⟩ => ?_) ?_
 ·rw [hb22];intro hK;refine qf Ty.field38_4 ?_;exact hK
 refine W_gs (v := v0_3) rfl rfl rfl rfl (fun ⟨hb23, _⟩ => ?_) ?_
 ·rw [hb23];intro hK;refine qb 1 Ty.cell33 hS20 ?_;exact hK
 refine W_gs (v := pl g2 (0 + 4)) rfl rfl rfl rfl (fun ⟨hb24, _⟩ => ?_) ?_
 ·rw [hb24];intro hK;refine qf Ty.field38_4 ?_;exact hK
 refine W_gs (v := v1_3) rfl rfl rfl rfl (fun ⟨hb25, _⟩ => ?_) ?_
 ·rw [hb25];intro hK;refine qb 0 Ty.cell33 hS20 ?_;exact hK
 obtain ⟨Q27, hQ27⟩ : ∃ Q : Hp → Prop, Q = fun wq => St [] w F F [.box g2 [.i .i64 x1.seq, v1_0, v1_1, v1_2, v1_3], .box g1 [.i .i64 x0.seq, v0_0, v0_1, v0_2, v0_3]] wq := ⟨_, rfl⟩;refine W_gw (v := .b r4) (Q := Q27) (by rw [hQ27]; exact hS20) rfl rfl rfl rfl (fun ⟨hb26, _⟩ => ?_) ?_
 ·rw [hb26];intro hK;have hy28 := hr4;rw [only_t (by first | rfl | (rw [hb26]; first | done | rfl) | simp [hb26])] at hy28;refine ql (cellarerkeep_Vols_ok hS20.good h0_3 h1_3 hy28) ?_;rintro v29 w29 ⟨Fr4, rfl, hT29⟩;have hS29 := hS20.lent hT29;exact hK _ (by rw [hQ27]; exact hS29)
 intro w30 hS30;rw [hQ27] at hS30;refine Nxt.now ?_;refine W_gs (v := .b (!r4)) rfl rfl rfl rfl (fun ⟨hb31, _⟩ => ?_) ?_
 ·rw [hb31];intro hK;refine qc ?_;exact hK
 refine W_pkO rfl rfl rfl rfl rfl rfl (fun hc => by rw [hc]; rfl) ?_;refine qn ?_;refine C_cond rfl (fun hc32 => ?_) (fun hc32 => ?_)
 ·rw [if_t hc32] at H;refine qs ?_;refine qm ?_;obtain rfl := oi H;refine C_ret rfl rfl ?_;exact ⟨F, rfl, hS30.pick [] (by decide)⟩
 ·rw [if_f hc32] at H;refine qk ?_;refine C_seq_join (fun E wq => cellarerkeep_Catalog.k1 x0 x1 = some r ∧ ∃ (F33 : Frz), E = [(2, pl g1 0), (3, pl g2 0)] ∧ F.le F33 ∧ St [] w F F33 [.box g2 [.i .i64 x1.seq, v1_0, v1_1, v1_2, v1_3], .box g1 [.i .i64 x0.seq, v0_0, v0_1, v0_2, v0_3]] wq) ?_ ?_
  ·refine qs ?_;refine qm ?_;refine C_block ?_;refine C_loopM (fun (s : Int) E wq => ∃ (F67 : Frz), E = [(2, pl g1 0), (3, pl g2 0), (5, .i .i64 s)] ∧ F.le F67 ∧ St [] w F F67 [.box g2 [.i .i64 x1.seq, v1_0, v1_1, v1_2, v1_3], .box g1 [.i .i64 x0.seq, v0_0, v0_1, v0_2, v0_3]] wq) H ?_ ?_
   ·exact ⟨_, ⟨F, rfl, (Frz.le.refl _), hS30⟩, ⟨rfl, rfl, rfl, trivial⟩⟩
   ·rintro rec69 i68 E w67 hI H
    try dsimp only at hI
    obtain ⟨F67, rfl, le67, hS67⟩ := hI;dsimp only [cellarerkeep_Catalog.l4] at H;refine C_seq ?_;refine qs ?_;refine qc ?_;refine qf Ty.field38_1 ?_;refine qb 1 Ty.cell34 hS67 ?_;refine qr (O_len Tryz.underlying34 rfl h0_0.ln) ?_;refine qr (O_bin rfl rfl bI_lss) ?_;refine qn ?_;refine C_cond rfl (fun hc70 => ?_) (fun hc70 => ?_)
    ·rw [if_t hc70] at H;refine qk ?_;refine C_seq ?_;refine C_block ?_;refine C_seq ?_;obtain ⟨x71, hx71, H⟩ := bd_some H;obtain ⟨x73, hx73, H⟩ := bd_some H;obtain ⟨r75, hr75, H⟩ := bd_some H;refine C_regionD (G := F67) [0, 1, 2, 3, 4, 5, 6, 7, 8, 9, 10, 11] rfl Ty.mixed (by kernel_rfl) hS67.agree ?_;refine qf Ty.field38_1 ?_;refine qbq 1 Ty.cell34 hS67 ?_;refine qc ?_;obtain ⟨hp76, hy76⟩ := ix_some hx71;obtain ⟨cs76, hr76, he76⟩ := (h0_0.mono le67).el hy76;obtain ⟨ue72_0, ue72_1, rfl, hue72_0, hue72_1⟩ := hr76;replace he76 : Elf _ _ 4 _ _ := he76;have hi76 := he76.ixd;refine qi Tryz.underlying34 Ty.size46 hi76 hp76 ?_;refine qq (O_ldg 0 (Snap.cells x71 ue72_0 ue72_1) Ty.agg46 Ty.size46 rfl (he76.mono hS67.agree) (by omega) rfl (Nat.le_of_ble_eq_true rfl)) ?_;refine qf Ty.field38_1 ?_;refine qbq 0 Ty.cell34 hS67 ?_;refine qc ?_;obtain ⟨hp77, hy77⟩ := ix_some hx73;obtain ⟨cs77, hr77, he77⟩ := (h1_0.mono le67).el hy77;obtain ⟨ue74_0, ue74_1, rfl, hue74_0, hue74_1⟩ := hr77;replace he77 : Elf _ _ 4 _ _ := he77;have hi77 := he77.ixd;refine qi Tryz.underlying34 Ty.size46 hi77 hp77 ?_;refine qq (O_ldg 0 (Snap.cells x73 ue74_0 ue74_1) Ty.agg46 Ty.size46 rfl (he77.mono hS67.agree) (by omega) rfl (Nat.le_of_ble_eq_true rfl)) ?_;refine ql (cellarerkeep_Snap_ok hS67.good hue72_0 hue72_1 hue74_0 hue74_1 hr75) ?_;rintro v78 w78 ⟨Fr75, rfl, hT78⟩;have hS78 := hS67.lent hT78;refine Nxt.frz (Frz.le.refl _) hS78.agree ?_;refine qm ?_;refine C_cond rfl (fun hc79 => ?_) (fun hc79 => ?_)
     ·rw [if_t hc79] at H;refine qs ?_;refine qm ?_;obtain rfl := oi H;refine C_ret rfl rfl ?_;exact ⟨F67, rfl, hS78.pick [] (by decide)⟩
     ·rw [if_f hc79] at H;refine C_skip ?_;refine N_block ?_;refine N_code ?_;refine qd ?_;refine q3 ?_;refine W_nil ?_;exact N_againM (wr (i68 + 1)) _ H ⟨F67, rfl, le67, hS78⟩ ⟨rfl, rfl, rfl, trivial⟩
    ·rw [if_f hc70] at H;refine C_exit _ rfl ?_;exact N_join _ ⟨H, ⟨F67, rfl, le67, hS67⟩⟩ ⟨rfl, rfl, trivial⟩
  ·rintro E w33 ⟨H, F33, rfl, le33, hS33⟩;dsimp only [cellarerkeep_Catalog.k1] at H;refine C_seq_join (fun E wq => cellarerkeep_Catalog.k2 = some r ∧ ∃ (F34 : Frz), E = [] ∧ F33.le F34 ∧ St [] w F F34 [] wq) ?_ ?_
   ·refine qs ?_;refine qm ?_;refine C_block ?_;refine C_loopM (fun (s : Int) E wq => ∃ (F35 : Frz), E = [(2, pl g1 0), (3, pl g2 0), (6, .i .i64 s)] ∧ F33.le F35 ∧ St [] w F F35 [.box g2 [.i .i64 x1.seq, v1_0, v1_1, v1_2, v1_3], .box g1 [.i .i64 x0.seq, v0_0, v0_1, v0_2, v0_3]] wq) H ?_ ?_
    ·exact ⟨_, ⟨F33, rfl, (Frz.le.refl _), hS33⟩, ⟨rfl, rfl, rfl, trivial⟩⟩
    ·rintro rec37 i36 E w35 hI H
     try dsimp only at hI
     obtain ⟨F35, rfl, le35, hS35⟩ := hI;dsimp only [cellarerkeep_Catalog.l3] at H;refine C_seq ?_;refine qs ?_;refine qc ?_;refine qf Ty.field38_3 ?_;refine qb 1 Ty.cell36 hS35 ?_;refine qr (O_len Tryz.underlying36 rfl h0_2.ln) ?_;refine qr (O_bin rfl rfl bI_lss) ?_;refine qn ?_;refine C_cond rfl (fun hc38 => ?_) (fun hc38 => ?_)
     ·rw [if_t hc38] at H;refine qk ?_;refine C_seq ?_;refine C_block ?_;refine C_seq ?_;obtain ⟨x39, hx39, H⟩ := bd_some H;obtain ⟨x41, hx41, H⟩ := bd_some H;have hb45 := hS35.boxAt 0 rfl;refine C_regionD (G := (F35.hold w35 [g2])) [0, 1, 2, 3, 4, 5, 6, 7, 8, 9, 10, 11, 12, 13] rfl Ty.mixed (by kernel_rfl) (HB.agree (HB.cons 0 hb45 hS35 rfl HB.nil) hS35.agree) ?_;refine qf Ty.field38_3 ?_;refine qbq 1 Ty.cell36 hS35 ?_;refine qc ?_;obtain ⟨hp46, hy46⟩ := ix_some hx39;obtain ⟨cs46, hr46, he46⟩ := (h0_2.mono (le33.trans le35)).el hy46;obtain ⟨ue40_0, rfl, hue40_0⟩ := hr46;replace he46 : Elf _ _ 3 _ _ := he46;have hi46 := he46.ixd;refine qi Tryz.underlying36 Ty.size55 hi46 hp46 ?_;refine qq (O_ldg 0 (Exp.cells x39 ue40_0) Ty.agg55 Ty.size55 rfl (he46.mono hS35.agree) (by omega) rfl (Nat.le_of_ble_eq_true rfl)) ?_;refine qf Ty.field38_3 ?_;refine qr (O_fld1 Ty.cell36 rfl (hb45.held (HB.cons 0 hb45 hS35 rfl HB.nil) (by simp)) rfl) ?_;refine qc ?_;obtain ⟨hp47, hy47⟩ := ix_some hx41;obtain ⟨cs47, hr47, he47⟩ := (h1_2.mono (le33.trans le35)).el hy47;obtain ⟨ue42_0, rfl, hue42_0⟩ := hr47;replace he47 : Elf _ _ 3 _ _ := he47;have hi47 := he47.ixd;refine qi Tryz.underlying36 Ty.size55 hi47 hp47 ?_;refine qr (O_ldg 0 (Exp.cells x41 ue42_0) Ty.agg55 Ty.size55 rfl (he47.mono (Frz.le_hold _ _ _)) (by omega) rfl (Nat.le_of_ble_eq_true rfl)) ?_;refine qx (E_alc (cs := [.i .i64 0, .i .i64 0, .sl none 0 (.k 0)]) Ty.zero55 rfl hS35) ?_;rintro _ w43 ⟨g43, rfl, hS43⟩;refine qh 1 hb45 hS43 ?_;refine qx (E_alc (cs := [.i .i64 0, .i .i64 0, .sl none 0 (.k 0)]) Ty.zero55 rfl hS43) ?_;rintro _ w44 ⟨g44, rfl, hS44⟩;refine qh 2 hb45 hS44 ?_;refine qu (E_bst (c := [.i .i64 x39.seq, .i .i64 x39.of, ue40_0]) 1 ([.i .i64 x39.seq, .i .i64 x39.of, ue40_0]) rfl rfl hS44 rfl rfl Ty.size55 (by simp only [List.all_cons, List.all_nil, List.all_append, hue40_0.ln.one]; rfl) rfl rfl) ?_;rintro _ w48 hS48;refine qh 2 hb45 hS48 ?_;refine qu (E_bst (c := [.i .i64 x41.seq, .i .i64 x41.of, ue42_0]) 0 ([.i .i64 x41.seq, .i .i64 x41.of, ue42_0]) rfl rfl hS48 rfl rfl Ty.size55 (by simp only [List.all_cons, List.all_nil, List.all_append, hue42_0.ln.one]; rfl) rfl rfl) ?_;rintro _ w49 hS49;refine qh 2 hb45 hS49 ?_;refine qn ?_;refine C_seq ?_;obtain ⟨r50, hr50, H⟩ := bd_some H;refine qd ?_;refine qf Ty.field55_0 ?_;refine qb 1 Ty.cell3 hS49 ?_;refine qf Ty.field55_0 ?_;refine qb 0 Ty.cell3 hS49 ?_;refine qr (O_bin rfl rfl bI_neq) ?_;refine qc ?_;refine W_gs (v := pl g43 (0 + 1)) rfl rfl rfl rfl (fun ⟨hb51, _⟩ => ?_) ?_
      ·rw [hb51];intro hK;refine qf Ty.field55_1 ?_;exact hK
      refine W_gs (v := .i .i64 x39.of) rfl rfl rfl rfl (fun ⟨hb52, _⟩ => ?_) ?_
      ·rw [hb52];intro hK;refine qb 1 Ty.cell3 hS49 ?_;exact hK
      refine W_gs (v := pl g44 (0 + 1)) rfl rfl rfl rfl (fun ⟨hb53, _⟩ => ?_) ?_
      ·rw [hb53];intro hK;refine qf Ty.field55_1 ?_;exact hK
      refine W_gs (v := .i .i64 x41.of) rfl rfl rfl rfl (fun ⟨hb54, _⟩ => ?_) ?_
      ·rw [hb54];intro hK;refine qb 0 Ty.cell3 hS49 ?_;exact hK
      refine W_gs (v := .b (decide (x39.of ≠ x41.of))) rfl rfl rfl rfl (fun ⟨hb55, _⟩ => ?_) ?_
      ·rw [hb55];intro hK;refine qr (O_bin rfl rfl bI_neq) ?_;exact hK
      refine W_pkO rfl rfl rfl rfl rfl rfl (fun hc => by rw [hc]; rfl) ?_;refine qc ?_;refine W_gs (v := pl g43 (0 + 2)) rfl rfl rfl rfl (fun ⟨hb56, _⟩ => ?_) ?_
      ·rw [hb56];intro hK;refine qf Ty.field55_2 ?_;exact hK
      refine W_gs (v := ue40_0) rfl rfl rfl rfl (fun ⟨hb57, _⟩ => ?_) ?_
      ·rw [hb57];intro hK;refine qb 1 Ty.cell44 hS49 ?_;exact hK
      refine W_gs (v := pl g44 (0 + 2)) rfl rfl rfl rfl (fun ⟨hb58, _⟩ => ?_) ?_
      ·rw [hb58];intro hK;refine qf Ty.field55_2 ?_;exact hK
      refine W_gs (v := ue42_0) rfl rfl rfl rfl (fun ⟨hb59, _⟩ => ?_) ?_
      ·rw [hb59];intro hK;refine qb 0 Ty.cell44 hS49 ?_;exact hK
      obtain ⟨Q61, hQ61⟩ : ∃ Q : Hp → Prop, Q = fun wq => St [] w F F35 [.box g44 [.i .i64 x41.seq, .i .i64 x41.of, ue42_0], .box g43 [.i .i64 x39.seq, .i .i64 x39.of, ue40_0], .box g2 [.i .i64 x1.seq, v1_0, v1_1, v1_2, v1_3], .box g1 [.i .i64 x0.seq, v0_0, v0_1, v0_2, v0_3]] wq := ⟨_, rfl⟩;refine W_gw (v := .b r50) (Q := Q61) (by rw [hQ61]; exact hS49) rfl rfl rfl rfl (fun ⟨hb60, _⟩ => ?_) ?_
      ·rw [hb60];intro hK;have hy62 := hr50;rw [only_t (by first | rfl | (rw [hb60]; first | done | rfl) | simp [hb60])] at hy62;refine ql (cellarerkeep_Locs_ok hS49.good hue40_0 hue42_0 hy62) ?_;rintro v63 w63 ⟨Fr50, rfl, hT63⟩;have hS63 := hS49.lent hT63;exact hK _ (by rw [hQ61]; exact hS63)
      intro w64 hS64;rw [hQ61] at hS64;refine Nxt.now ?_;refine W_gs (v := .b (!r50)) rfl rfl rfl rfl (fun ⟨hb65, _⟩ => ?_) ?_
      ·rw [hb65];intro hK;refine qc ?_;exact hK
      refine W_pkO rfl rfl rfl rfl rfl rfl (fun hc => by rw [hc]; rfl) ?_;refine qn ?_;refine C_cond rfl (fun hc66 => ?_) (fun hc66 => ?_)
      ·rw [if_t hc66] at H;refine qs ?_;refine qm ?_;obtain rfl := oi H;refine C_ret rfl rfl ?_;exact ⟨F35, rfl, hS64.pick [] (by decide)⟩
      ·rw [if_f hc66] at H;refine C_skip ?_;refine N_block ?_;refine N_code ?_;refine qd ?_;refine q3 ?_;refine W_nil ?_;exact N_againM (wr (i36 + 1)) _ H ⟨F35, rfl, le35, hS64.pick [2, 3] (by decide)⟩ ⟨rfl, rfl, rfl, trivial⟩
     ·rw [if_f hc38] at H;refine C_exit _ rfl ?_;exact N_join _ ⟨H, ⟨F35, rfl, le35, hS35.pick [] (by decide)⟩⟩ trivial
   ·rintro E w34 ⟨H, F34, rfl, le34, hS34⟩;dsimp only [cellarerkeep_Catalog.k2] at H;refine qs ?_;refine qm ?_;obtain rfl := oi H;refine C_ret rfl rfl ?_;exact ⟨F34, rfl, hS34⟩
def rebuild_Part_1 (x0 : Snap) : Option Bool :=
  some (decide ((x0.locs.length : Int) = 0))
set_option maxRecDepth 100000 in
theorem rebuild_Part_1_ok {K : Tb} {F : Frz} {w : Hp} {x0 : Snap} {r : Bool} {v0_0 : Val} {v0_1 : Val} (hA : Gd F w) (h0_0 : SlF Part.t F v0_0 x0.man.parts) (h0_1 : SlF Loc.t F v0_1 x0.locs) (H : rebuild_Part_1 x0 = some r) : Ret Tryz.prog K 66 [.agg (Snap.cells x0 v0_0 v0_1)] w fun v w' => ∃ (F' : Frz), v = .b r ∧ St [] w F F' [] w' := by
 refine qa1 Tryz.func66 ?_;have hS := St.start hA;dsimp only [rebuild_Part_1] at H;refine qs ?_;refine xm (E_bx (cs := [.i .i64 x0.seq, .s x0.man.name, v0_0, v0_1]) rfl rfl (by simp only [List.all_cons, List.all_nil, List.all_append, h0_0.ln.one, h0_1.ln.one]; rfl) hS) ?_;rintro _ w1 ⟨g1, rfl, hS1⟩;refine qm ?_;refine qs ?_;refine qf Ty.field46_2 ?_;refine qb 0 Ty.cell44 hS1 ?_;refine qr (O_len Tryz.underlying44 rfl h0_1.ln) ?_;refine qr (O_bin rfl rfl bI_eql) ?_;refine qm ?_;obtain rfl := oi H;refine C_ret rfl rfl ?_;exact ⟨F, rfl, hS1.pick [] (by decide)⟩
def slices_IndexFunc_api_Snap_api_Snap_rebuild_Part_1.k1 : Option Int :=
  some (-1)
def slices_IndexFunc_api_Snap_api_Snap_rebuild_Part_1.l2 (x0 : List Snap) (rec4 : Int → Option Int) : Int → Option Int
  | i3 =>
    if decide (i3 < (x0.length : Int)) then
      bd (ix x0 i3) fun x6 =>
      bd (rebuild_Part_1 x6) fun r8 =>
      if r8 then
        some i3
      else
        rec4 (wr (i3 + 1))
    else
      slices_IndexFunc_api_Snap_api_Snap_rebuild_Part_1.k1
def slices_IndexFunc_api_Snap_api_Snap_rebuild_Part_1 (x0 : List Snap) : Option Int :=
  loop (slices_IndexFunc_api_Snap_api_Snap_rebuild_Part_1.l2 x0) 0
set_option maxRecDepth 100000 in
theorem slices_IndexFunc_api_Snap_api_Snap_rebuild_Part_1_ok {K : Tb} {F : Frz} {w : Hp} {x0 : List Snap} {r : Int} {v0 : Val} (hA : Gd F w) (h0 : SlF Snap.t F v0 x0) (H : slices_IndexFunc_api_Snap_api_Snap_rebuild_Part_1 x0 = some r) : Ret Tryz.prog K 115 [v0, .f 66 []] w fun v w' => ∃ (F' : Frz), v = .i .i64 r ∧ St [] w F F' [] w' := by
 refine qa2 Tryz.func115 ?_;have hS := St.start hA;dsimp only [slices_IndexFunc_api_Snap_api_Snap_rebuild_Part_1] at H;refine qs ?_;refine qm ?_;refine C_seq_join (fun E wq => slices_IndexFunc_api_Snap_api_Snap_rebuild_Part_1.k1 = some r ∧ ∃ (F1 : Frz), E = [] ∧ F.le F1 ∧ St [] w F F1 [] wq) ?_ ?_
 ·refine qs ?_;refine qc ?_;refine qr (O_len Tryz.underlying34 rfl h0.ln) ?_;refine qm ?_;refine C_block ?_;refine C_loopM (fun (s : Int) E wq => ∃ (F2 : Frz), E = [(0, v0), (1, .f 66 []), (7, .i .i64 (x0.length : Int)), (8, .i .i64 s)] ∧ F.le F2 ∧ St [] w F F2 [] wq) H ?_ ?_
  ·exact ⟨_, ⟨F, rfl, (Frz.le.refl _), hS⟩, ⟨rfl, rfl, rfl, rfl, trivial⟩⟩
  ·rintro rec4 i3 E w2 hI H
   try dsimp only at hI
   obtain ⟨F2, rfl, le2, hS2⟩ := hI;dsimp only [slices_IndexFunc_api_Snap_api_Snap_rebuild_Part_1.l2] at H;refine qs ?_;refine qr (O_bin rfl rfl bI_lss) ?_;refine qn ?_;refine C_seq ?_;refine C_cond rfl (fun hc5 => ?_) (fun hc5 => ?_)
   ·rw [if_t hc5] at H;refine qk ?_;refine C_seq ?_;refine C_block ?_;refine qs ?_;refine qc ?_;refine qm ?_;refine C_seq ?_;obtain ⟨x6, hx6, H⟩ := bd_some H;obtain ⟨r8, hr8, H⟩ := bd_some H;refine qd ?_;refine q3 ?_;obtain ⟨hp9, hy9⟩ := ix_some hx6;obtain ⟨cs9, hr9, he9⟩ := (h0.mono le2).el hy9;obtain ⟨ue7_0, ue7_1, rfl, hue7_0, hue7_1⟩ := hr9;replace he9 : Elf _ _ 4 _ _ := he9;have hi9 := he9.ixd;refine qi Tryz.underlying34 Ty.size46 hi9 hp9 ?_;refine qr (O_ldg 0 (Snap.cells x6 ue7_0 ue7_1) Ty.agg46 Ty.size46 rfl (he9.mono hS2.agree) (by omega) rfl (Nat.le_of_ble_eq_true rfl)) ?_;refine lm (rebuild_Part_1_ok hS2.good hue7_0 hue7_1 hr8) ?_;rintro v10 w10 ⟨Fr8, rfl, hT10⟩;have hS10 := hS2.lent hT10;refine qn ?_;refine C_cond rfl (fun hc11 => ?_) (fun hc11 => ?_)
    ·rw [if_t hc11] at H;refine qs ?_;refine qc ?_;refine qm ?_;obtain rfl := oi H;refine C_ret rfl rfl ?_;exact ⟨F2, rfl, hS10⟩
    ·rw [if_f hc11] at H;refine C_skip ?_;refine N_block ?_;refine N_code ?_;refine qd ?_;refine q2 ?_;refine W_nil ?_;exact N_againM (wr (i3 + 1)) _ H ⟨F2, rfl, le2, hS10⟩ ⟨rfl, rfl, rfl, rfl, trivial⟩
   ·rw [if_f hc5] at H;refine C_exit _ rfl ?_;exact N_join _ ⟨H, ⟨F2, rfl, le2, hS2⟩⟩ trivial
 ·rintro E w1 ⟨H, F1, rfl, le1, hS1⟩;dsimp only [slices_IndexFunc_api_Snap_api_Snap_rebuild_Part_1.k1] at H;refine qs ?_;refine qm ?_;obtain rfl := oi H;refine C_ret rfl rfl ?_;exact ⟨F1, rfl, hS1⟩
def slices_DeleteFunc_api_Snap_api_Snap_rebuild_Part_1.k1 (i5 : Int) (l6 : List Snap) : Option (List Snap) :=
  bd (cut (α := Snap) l6 i5 (l6.length : Int)) fun l7 =>
  bd (clr l6 i5.toNat ((l6.length : Int).toNat - i5.toNat) (Snap.mk 0 (Manifest.mk [] []) [])) fun l9 =>
  bd (cut (α := Snap) l9 0 i5) fun l11 =>
  bd (nz l9) fun _ =>
  some l11
def slices_DeleteFunc_api_Snap_api_Snap_rebuild_Part_1.k3 (i16 : Int) (rec18 : (Int × Int × (List Snap)) → Option (List Snap)) (i21 : Int) (l22 : List Snap) : Option (List Snap) :=
  rec18 (i21, wr (i16 + 1), l22)
def slices_DeleteFunc_api_Snap_api_Snap_rebuild_Part_1.l2 (rec18 : (Int × Int × (List Snap)) → Option (List Snap)) : (Int × Int × (List Snap)) → Option (List Snap)
  | (i15, i16, l17) =>
    if decide (i16 < (l17.length : Int)) then
      bd (ix l17 i16) fun x23 =>
      bd (rebuild_Part_1 x23) fun r28 =>
      if (!r28) then
        bd (ix l17 i15) fun x31 =>
        slices_DeleteFunc_api_Snap_api_Snap_rebuild_Part_1.k3 i16 rec18 (wr (i15 + 1)) (l17.set i15.toNat x23)
      else
        slices_DeleteFunc_api_Snap_api_Snap_rebuild_Part_1.k3 i16 rec18 i15 l17
    else
      slices_DeleteFunc_api_Snap_api_Snap_rebuild_Part_1.k1 i15 l17
def slices_DeleteFunc_api_Snap_api_Snap_rebuild_Part_1 (x0 : List Snap) : Option (List Snap) :=
  bd (slices_IndexFunc_api_Snap_api_Snap_rebuild_Part_1 x0) fun r1 =>
  if decide (r1 = (-1)) then
    some x0
  else
    loop (slices_DeleteFunc_api_Snap_api_Snap_rebuild_Part_1.l2) (r1, wr (r1 + 1), x0)
set_option maxRecDepth 100000 in
theorem slices_DeleteFunc_api_Snap_api_Snap_rebuild_Part_1_ok {K : Tb} {F : Frz} {w : Hp} {x0 : List Snap} {r : (List Snap)} {v0 : Val} (hS : St v0.own w F F [.row Snap.t v0 x0] w) (H : slices_DeleteFunc_api_Snap_api_Snap_rebuild_Part_1 x0 = some r) : Ret Tryz.prog K 65 [v0, .f 66 []] w fun v w' => ∃ (F' : Frz) (q0 : Val), v = q0 ∧ St v0.own w F F' [.row Snap.t q0 (r)] w' := by
 refine qa2 Tryz.func65 ?_;dsimp only [slices_DeleteFunc_api_Snap_api_Snap_rebuild_Part_1] at H;refine qs ?_;refine qm ?_;refine C_seq ?_;obtain ⟨r1, hr1, H⟩ := bd_some H;refine qd ?_;refine q2 ?_;refine lm (slices_IndexFunc_api_Snap_api_Snap_rebuild_Part_1_ok (Gd.now hS.wf) (hS.rowNow (k := 0) rfl) hr1) ?_;rintro v2 w2 ⟨Fr1, rfl, hT2⟩;have hS2 := hS.lent hT2;refine qm ?_;refine C_seq ?_;refine qs ?_;refine qc ?_;refine qr (O_bin rfl rfl bI_eql) ?_;refine qn ?_;refine C_cond rfl (fun hc3 => ?_) (fun hc3 => ?_)
 ·rw [if_t hc3] at H;refine qs ?_;refine qc ?_;refine qm ?_;obtain rfl := oi H;refine C_ret rfl rfl ?_;exact ⟨F, v0, rfl, hS2⟩
 ·rw [if_f hc3] at H;refine qk ?_;refine C_seq_join (fun E wq => ∃ i5 : Int, ∃ l6 : List Snap, slices_DeleteFunc_api_Snap_api_Snap_rebuild_Part_1.k1 i5 l6 = some r ∧ ∃ (F4 : Frz), E = [(0, v0), (5, .i .i64 i5)] ∧ F.le F4 ∧ St v0.own w F F4 [.row Snap.t v0 l6] wq) ?_ ?_
  ·refine qs ?_;refine q2 ?_;refine qm ?_;refine C_block ?_;refine C_loopM (fun (s : Int × Int × (List Snap)) E wq => ∃ (F14 : Frz), E = [(0, v0), (1, .f 66 []), (5, .i .i64 s.1), (6, .i .i64 s.2.1)] ∧ F.le F14 ∧ St v0.own w F F14 [.row Snap.t v0 s.2.2] wq) H ?_ ?_
   ·exact ⟨_, ⟨F, rfl, (Frz.le.refl _), hS2⟩, ⟨rfl, rfl, rfl, rfl, trivial⟩⟩
   ·rintro rec18 ⟨i15, i16, l17⟩ E w14 hI H
    try dsimp only at hI
    obtain ⟨F14, rfl, le14, hS14⟩ := hI;dsimp only [slices_DeleteFunc_api_Snap_api_Snap_rebuild_Part_1.l2] at H;refine C_seq ?_;refine qs ?_;refine q2 ?_;refine qr (O_len Tryz.underlying34 rfl (hS14.rowLn (k := 0) rfl)) ?_;refine qr (O_bin rfl rfl bI_lss) ?_;refine qn ?_;refine C_cond rfl (fun hc19 => ?_) (fun hc19 => ?_)
    ·rw [if_t hc19] at H;refine qk ?_;refine C_seq_join (fun E wq => ∃ i21 : Int, ∃ l22 : List Snap, slices_DeleteFunc_api_Snap_api_Snap_rebuild_Part_1.k3 i16 rec18 i21 l22 = some r ∧ ∃ (F20 : Frz), E = [(0, v0), (1, .f 66 []), (5, .i .i64 i21), (6, .i .i64 i16)] ∧ F14.le F20 ∧ St v0.own w F F20 [.row Snap.t v0 l22] wq) ?_ ?_
     ·refine C_block ?_;refine C_seq ?_;obtain ⟨x23, hx23, H⟩ := bd_some H;refine qd ?_;refine q2 ?_;obtain ⟨hp26, hy26⟩ := ix_some hx23;obtain ⟨cs26, hr26, he26⟩ := hS14.rowAt (k := 0) rfl hy26;obtain ⟨ue24_0, ue24_1, rfl, hue24_0, hue24_1⟩ := hr26;replace he26 : Elf _ _ 4 _ _ := he26;have hi26 := he26.ixd;refine qi Tryz.underlying34 Ty.size46 hi26 hp26 ?_;refine qr (O_ldg 0 (Snap.cells x23 ue24_0 ue24_1) Ty.agg46 Ty.size46 rfl he26 (by omega) rfl (Nat.le_of_ble_eq_true rfl)) ?_;refine xm (E_alc (cs := [.i .i64 0, .s [], .sl none 0 (.k 0), .sl none 0 (.k 0)]) Ty.zero46 rfl hS14) ?_;rintro _ w25 ⟨g25, rfl, hS25⟩;refine um (E_bst (c := [.i .i64 x23.seq, .s x23.man.name, ue24_0, ue24_1]) 0 ([.i .i64 x23.seq, .s x23.man.name, ue24_0, ue24_1]) rfl rfl hS25 rfl rfl Ty.size46 (by simp only [List.all_cons, List.all_nil, List.all_append, hue24_0.ln.one, hue24_1.ln.one]; rfl) rfl rfl) ?_;rintro _ w27 hS27;refine qn ?_;refine C_seq ?_;obtain ⟨r28, hr28, H⟩ := bd_some H;refine qd ?_;refine qc ?_;refine qr (O_bldg 0 (Snap.cells x23 ue24_0 ue24_1) Ty.agg46 Ty.size46 (Nat.zero_lt_succ _) rfl hS27 rfl (fun q u h => sub_at (post := []) rfl h)) ?_;refine lm (rebuild_Part_1_ok hS27.good hue24_0 hue24_1 hr28) ?_;rintro v29 w29 ⟨Fr28, rfl, hT29⟩;have hS29 := hS27.lent hT29;refine qm ?_;refine C_cond rfl (fun hc30 => ?_) (fun hc30 => ?_)
      ·rw [if_t hc30] at H;refine C_seq ?_;obtain ⟨x31, hx31, H⟩ := bd_some H;refine qd ?_;refine q2 ?_;refine qr (O_bldg 0 (Snap.cells x23 ue24_0 ue24_1) Ty.agg46 Ty.size46 (Nat.zero_lt_succ _) rfl hS29 rfl (fun q u h => sub_at (post := []) rfl h)) ?_;obtain ⟨hp33, hy33⟩ := ix_some hx31;obtain ⟨cs33, hr33, he33⟩ := hS29.rowAt (k := 1) rfl hy33;obtain ⟨ue32_0, ue32_1, rfl, hue32_0, hue32_1⟩ := hr33;replace he33 : Elf _ _ 4 _ _ := he33;have hi33 := he33.ixd;refine qi Tryz.underlying34 Ty.size46 hi33 hp33 ?_;refine um (E_put (c := [.i .i64 x23.seq, .s x23.man.name, ue24_0, ue24_1]) 1 (i15.toNat) 0 x31 x23 rfl rfl hS29 rfl (ix_some hx31).2 (by first | rfl | (show _ = _ * 4 + _; omega)) rfl Ty.size46 (by simp only [List.all_cons, List.all_nil, List.all_append, hue24_0.ln.one, hue24_1.ln.one]; rfl) (Nat.le_of_ble_eq_true rfl) (by rintro cs ⟨a2, a3, rfl, b2, b3⟩; exact ⟨ue24_0, ue24_1, rfl, hue24_0, hue24_1⟩)) ?_;rintro _ w34 hS34;refine qn ?_;refine qd ?_;refine q3 ?_;refine W_nil ?_;refine N_block ?_;exact N_join _ ⟨wr (i15 + 1), (l17.set i15.toNat x23), H, ⟨F14, rfl, (Frz.le.refl _), hS34.pick [1] (by decide)⟩⟩ ⟨rfl, rfl, rfl, rfl, trivial⟩
      ·rw [if_f hc30] at H;refine C_skip ?_;refine N_block ?_;exact N_join _ ⟨i15, l17, H, ⟨F14, rfl, (Frz.le.refl _), hS29.pick [1] (by decide)⟩⟩ ⟨rfl, rfl, rfl, rfl, trivial⟩
     ·rintro E w20 ⟨i21, l22, H, F20, rfl, le20, hS20⟩;dsimp only [slices_DeleteFunc_api_Snap_api_Snap_rebuild_Part_1.k3] at H;refine qd ?_;refine q3 ?_;refine W_nil ?_;exact N_againM (i21, wr (i16 + 1), l22) _ H ⟨F20, rfl, (le14.trans le20), hS20⟩ ⟨rfl, rfl, rfl, rfl, trivial⟩
    ·rw [if_f hc19] at H;refine C_exit _ rfl ?_;exact N_join _ ⟨i15, l17, H, ⟨F14, rfl, le14, hS14⟩⟩ ⟨rfl, rfl, trivial⟩
  ·rintro E w4 ⟨i5, l6, H, F4, rfl, le4, hS4⟩;dsimp only [slices_DeleteFunc_api_Snap_api_Snap_rebuild_Part_1.k1] at H;refine C_seq ?_;obtain ⟨l7, hl7, H⟩ := bd_some H;obtain ⟨l9, hl9, H⟩ := bd_some H;refine qd ?_;refine q2 ?_;refine W_cutR 0 i5 (l6.length : Int) rfl rfl rfl rfl Tryz.underlying34 Ty.size46 rfl (.inr ⟨_, _, rfl, rfl⟩) (.inl ⟨rfl, rfl⟩) hS4 rfl hl7 ?_;intro q8 hv8 hw8;refine um (E_clr (tr := Snap.t) (x0 := (Snap.mk 0 (Manifest.mk [] []) [])) 0 Tryz.underlying34 Ty.zero46 ⟨.sl none 0 (.k 0), .sl none 0 (.k 0), rfl, (SlF.nil _), (SlF.nil _)⟩ rfl hS4 rfl hw8 hl9) ?_;rintro _ w10 hS10;refine qn ?_;refine C_seq ?_;obtain ⟨l11, hl11, H⟩ := bd_some H;refine qd ?_;refine q2 ?_;refine W_cutR 0 0 i5 rfl rfl rfl rfl Tryz.underlying34 Ty.size46 rfl (.inl ⟨rfl, rfl⟩) (.inr ⟨_, _, rfl, rfl⟩) hS10 rfl hl11 ?_;intro q12 hv12 hw12;refine qm ?_;obtain ⟨_, hnz13, H⟩ := bd_some H;have hS13 := hS10.shrink 0 rfl hw12 hl11 hnz13;obtain rfl := oi H;refine C_ret rfl rfl ?_;exact ⟨F4, q12, rfl, hS13⟩
def rebuild_Part_2 (x0 : Chunk) : Option Bool :=
  some (decide ((x0.locs.length : Int) = 0))
set_option maxRecDepth 100000 in
theorem rebuild_Part_2_ok {K : Tb} {F : Frz} {w : Hp} {x0 : Chunk} {r : Bool} {v0_0 : Val} {v0_1 : Val} (hA : Gd F w) (h0_0 : SlF tB F v0_0 x0.data) (h0_1 : SlF Loc.t F v0_1 x0.locs) (l0_0 : (x0.id).length = 32) (H : rebuild_Part_2 x0 = some r) : Ret Tryz.prog K 68 [.agg (Chunk.cells x0 v0_0 v0_1)] w fun v w' => ∃ (F' : Frz), v = .b r ∧ St [] w F F' [] w' := by
 refine qa1 Tryz.func68 ?_;have hS := St.start hA;dsimp only [rebuild_Part_2] at H;refine qs ?_;refine xm (E_bx (cs := idCells x0.id ++ [.b x0.staged, v0_0, v0_1]) rfl rfl (by simp only [List.all_cons, List.all_nil, List.all_append, h0_0.ln.one, h0_1.ln.one]; rfl) hS) ?_;rintro _ w1 ⟨g1, rfl, hS1⟩;refine qm ?_;refine qs ?_;refine qf Ty.field60_3 ?_;refine qb 0 Ty.cell44 hS1 ?_;refine qr (O_len Tryz.underlying44 rfl h0_1.ln) ?_;refine qr (O_bin rfl rfl bI_eql) ?_;refine qm ?_;obtain rfl := oi H;refine C_ret rfl rfl ?_;exact ⟨F, rfl, hS1.pick [] (by decide)⟩
def slices_IndexFunc_api_Chunk_api_Chunk_rebuild_Part_2.k1 : Option Int :=
  some (-1)
def slices_IndexFunc_api_Chunk_api_Chunk_rebuild_Part_2.l2 (x0 : List Chunk) (rec4 : Int → Option Int) : Int → Option Int
  | i3 =>
    if decide (i3 < (x0.length : Int)) then
      bd (ix x0 i3) fun x6 =>
      bd (rebuild_Part_2 x6) fun r8 =>
      if r8 then
        some i3
      else
        rec4 (wr (i3 + 1))
    else
      slices_IndexFunc_api_Chunk_api_Chunk_rebuild_Part_2.k1
def slices_IndexFunc_api_Chunk_api_Chunk_rebuild_Part_2 (x0 : List Chunk) : Option Int :=
  loop (slices_IndexFunc_api_Chunk_api_Chunk_rebuild_Part_2.l2 x0) 0
set_option maxRecDepth 100000 in
theorem slices_IndexFunc_api_Chunk_api_Chunk_rebuild_Part_2_ok {K : Tb} {F : Frz} {w : Hp} {x0 : List Chunk} {r : Int} {v0 : Val} (hA : Gd F w) (h0 : SlF Chunk.t F v0 x0) (H : slices_IndexFunc_api_Chunk_api_Chunk_rebuild_Part_2 x0 = some r) : Ret Tryz.prog K 116 [v0, .f 68 []] w fun v w' => ∃ (F' : Frz), v = .i .i64 r ∧ St [] w F F' [] w' := by
 refine qa2 Tryz.func116 ?_;have hS := St.start hA;dsimp only [slices_IndexFunc_api_Chunk_api_Chunk_rebuild_Part_2] at H;refine qs ?_;refine qm ?_;refine C_seq_join (fun E wq => slices_IndexFunc_api_Chunk_api_Chunk_rebuild_Part_2.k1 = some r ∧ ∃ (F1 : Frz), E = [] ∧ F.le F1 ∧ St [] w F F1 [] wq) ?_ ?_
 ·refine qs ?_;refine qc ?_;refine qr (O_len Tryz.underlying35 rfl h0.ln) ?_;refine qm ?_;refine C_block ?_;refine C_loopM (fun (s : Int) E wq => ∃ (F2 : Frz), E = [(0, v0), (1, .f 68 []), (7, .i .i64 (x0.length : Int)), (8, .i .i64 s)] ∧ F.le F2 ∧ St [] w F F2 [] wq) H ?_ ?_
  ·exact ⟨_, ⟨F, rfl, (Frz.le.refl _), hS⟩, ⟨rfl, rfl, rfl, rfl, trivial⟩⟩
  ·rintro rec4 i3 E w2 hI H
   try dsimp only at hI
   obtain ⟨F2, rfl, le2, hS2⟩ := hI;dsimp only [slices_IndexFunc_api_Chunk_api_Chunk_rebuild_Part_2.l2] at H;refine qs ?_;refine qr (O_bin rfl rfl bI_lss) ?_;refine qn ?_;refine C_seq ?_;refine C_cond rfl (fun hc5 => ?_) (fun hc5 => ?_)
   ·rw [if_t hc5] at H;refine qk ?_;refine C_seq ?_;refine C_block ?_;refine qs ?_;refine qc ?_;refine qm ?_;refine C_seq ?_;obtain ⟨x6, hx6, H⟩ := bd_some H;obtain ⟨r8, hr8, H⟩ := bd_some H;refine qd ?_;refine q3 ?_;obtain ⟨hp9, hy9⟩ := ix_some hx6;obtain ⟨cs9, hr9, he9⟩ := (h0.mono le2).el hy9;obtain ⟨ue7_0, ue7_1, rfl, hle7_0, hue7_0, hue7_1⟩ := hr9;replace he9 : Elf _ _ 35 _ _ := he9;have hi9 := he9.ixd;refine qi Tryz.underlying35 Ty.size60 hi9 hp9 ?_;refine qr (O_ldg 0 (Chunk.cells x6 ue7_0 ue7_1) Ty.agg60 Ty.size60 rfl (he9.mono hS2.agree) (by omega) rfl (Nat.le_of_ble_eq_true rfl)) ?_;refine lm (rebuild_Part_2_ok hS2.good hue7_0 hue7_1 hle7_0 hr8) ?_;rintro v10 w10 ⟨Fr8, rfl, hT10⟩;have hS10 := hS2.lent hT10;refine qn ?_;refine C_cond rfl (fun hc11 => ?_) (fun hc11 => ?_)
    ·rw [if_t hc11] at H;refine qs ?_;refine qc ?_;refine qm ?_;obtain rfl := oi H;refine C_ret rfl rfl ?_;exact ⟨F2, rfl, hS10⟩
    ·rw [if_f hc11] at H;refine C_skip ?_;refine N_block ?_;refine N_code ?_;refine qd ?_;refine q2 ?_;refine W_nil ?_;exact N_againM (wr (i3 + 1)) _ H ⟨F2, rfl, le2, hS10⟩ ⟨rfl, rfl, rfl, rfl, trivial⟩
   ·rw [if_f hc5] at H;refine C_exit _ rfl ?_;exact N_join _ ⟨H, ⟨F2, rfl, le2, hS2⟩⟩ trivial
 ·rintro E w1 ⟨H, F1, rfl, le1, hS1⟩;dsimp only [slices_IndexFunc_api_Chunk_api_Chunk_rebuild_Part_2.k1] at H;refine qs ?_;refine qm ?_;obtain rfl := oi H;refine C_ret rfl rfl ?_;exact ⟨F1, rfl, hS1⟩
def slices_DeleteFunc_api_Chunk_api_Chunk_rebuild_Part_2.k1 (i5 : Int) (l6 : List Chunk) : Option (List Chunk) :=
  bd (cut (α := Chunk) l6 i5 (l6.length : Int)) fun l7 =>
  bd (clr l6 i5.toNat ((l6.length : Int).toNat - i5.toNat) (Chunk.mk (List.replicate 32 (0 : UInt8)) false [] [])) fun l9 =>
  bd (cut (α := Chunk) l9 0 i5) fun l11 =>
  bd (nz l9) fun _ =>
  some l11
def slices_DeleteFunc_api_Chunk_api_Chunk_rebuild_Part_2.k3 (i16 : Int) (rec18 : (Int × Int × (List Chunk)) → Option (List Chunk)) (i21 : Int) (l22 : List Chunk) : Option (List Chunk) :=
  rec18 (i21, wr (i16 + 1), l22)
def slices_DeleteFunc_api_Chunk_api_Chunk_rebuild_Part_2.l2 (rec18 : (Int × Int × (List Chunk)) → Option (List Chunk)) : (Int × Int × (List Chunk)) → Option (List Chunk)
  | (i15, i16, l17) =>
    if decide (i16 < (l17.length : Int)) then
      bd (ix l17 i16) fun x23 =>
      bd (rebuild_Part_2 x23) fun r28 =>
      if (!r28) then
        bd (ix l17 i15) fun x31 =>
        slices_DeleteFunc_api_Chunk_api_Chunk_rebuild_Part_2.k3 i16 rec18 (wr (i15 + 1)) (l17.set i15.toNat x23)
      else
        slices_DeleteFunc_api_Chunk_api_Chunk_rebuild_Part_2.k3 i16 rec18 i15 l17
    else
      slices_DeleteFunc_api_Chunk_api_Chunk_rebuild_Part_2.k1 i15 l17
def slices_DeleteFunc_api_Chunk_api_Chunk_rebuild_Part_2 (x0 : List Chunk) : Option (List Chunk) :=
  bd (slices_IndexFunc_api_Chunk_api_Chunk_rebuild_Part_2 x0) fun r1 =>
  if decide (r1 = (-1)) then
    some x0
  else
    loop (slices_DeleteFunc_api_Chunk_api_Chunk_rebuild_Part_2.l2) (r1, wr (r1 + 1), x0)
set_option maxRecDepth 100000 in
theorem slices_DeleteFunc_api_Chunk_api_Chunk_rebuild_Part_2_ok {K : Tb} {F : Frz} {w : Hp} {x0 : List Chunk} {r : (List Chunk)} {v0 : Val} (hS : St v0.own w F F [.row Chunk.t v0 x0] w) (H : slices_DeleteFunc_api_Chunk_api_Chunk_rebuild_Part_2 x0 = some r) : Ret Tryz.prog K 67 [v0, .f 68 []] w fun v w' => ∃ (F' : Frz) (q0 : Val), v = q0 ∧ St v0.own w F F' [.row Chunk.t q0 (r)] w' := by
 refine qa2 Tryz.func67 ?_;dsimp only [slices_DeleteFunc_api_Chunk_api_Chunk_rebuild_Part_2] at H;refine qs ?_;refine qm ?_;refine C_seq ?_;obtain ⟨r1, hr1, H⟩ := bd_some H;refine qd ?_;refine q2 ?_;refine lm (slices_IndexFunc_api_Chunk_api_Chunk_rebuild_Part_2_ok (Gd.now hS.wf) (hS.rowNow (k := 0) rfl) hr1) ?_;rintro v2 w2 ⟨Fr1, rfl, hT2⟩;have hS2 := hS.lent hT2;refine qm ?_;refine C_seq ?_;refine qs ?_;refine qc ?_;refine qr (O_bin rfl rfl bI_eql) ?_;refine qn ?_;refine C_cond rfl (fun hc3 => ?_) (fun hc3 => ?_)
 ·rw [if_t hc3] at H;refine qs ?_;refine qc ?_;refine qm ?_;obtain rfl := oi H;refine C_ret rfl rfl ?_;exact ⟨F, v0, rfl, hS2⟩
 ·rw [if_f hc3] at H;refine qk ?_;refine C_seq_join (fun E wq => ∃ i5 : Int, ∃ l6 : List Chunk, slices_DeleteFunc_api_Chunk_api_Chunk_rebuild_Part_2.k1 i5 l6 = some r ∧ ∃ (F4 : Frz), E = [(0, v0), (5, .i .i64 i5)] ∧ F.le F4 ∧ St v0.own w F F4 [.row Chunk.t v0 l6] wq) ?_ ?_
  ·refine qs ?_;refine q2 ?_;refine qm ?_;refine C_block ?_;refine C_loopM (fun (s : Int × Int × (List Chunk)) E wq => ∃ (F14 : Frz), E = [(0, v0), (1, .f 68 []), (5, .i .i64 s.1), (6, .i .i64 s.2.1)] ∧ F.le F14 ∧ St v0.own w F F14 [.row Chunk.t v0 s.2.2] wq) H ?_ ?_
   ·exact ⟨_, ⟨F, rfl, (Frz.le.refl _), hS2⟩, ⟨rfl, rfl, rfl, rfl, trivial⟩⟩
   ·rintro rec18 ⟨i15, i16, l17⟩ E w14 hI H
    try dsimp only at hI
    obtain ⟨F14, rfl, le14, hS14⟩ := hI;dsimp only [slices_DeleteFunc_api_Chunk_api_Chunk_rebuild_Part_2.l2] at H;refine C_seq ?_;refine qs ?_;refine q2 ?_;refine qr (O_len Tryz.underlying35 rfl (hS14.rowLn (k := 0) rfl)) ?_;refine qr (O_bin rfl rfl bI_lss) ?_;refine qn ?_;refine C_cond rfl (fun hc19 => ?_) (fun hc19 => ?_)
    ·rw [if_t hc19] at H;refine qk ?_;refine C_seq_join (fun E wq => ∃ i21 : Int, ∃ l22 : List Chunk, slices_DeleteFunc_api_Chunk_api_Chunk_rebuild_Part_2.k3 i16 rec18 i21 l22 = some r ∧ ∃ (F20 : Frz), E = [(0, v0), (1, .f 68 []), (5, .i .i64 i21), (6, .i .i64 i16)] ∧ F14.le F20 ∧ St v0.own w F F20 [.row Chunk.t v0 l22] wq) ?_ ?_
     ·refine C_block ?_;refine C_seq ?_;obtain ⟨x23, hx23, H⟩ := bd_some H;refine qd ?_;refine q2 ?_;obtain ⟨hp26, hy26⟩ := ix_some hx23;obtain ⟨cs26, hr26, he26⟩ := hS14.rowAt (k := 0) rfl hy26;obtain ⟨ue24_0, ue24_1, rfl, hle24_0, hue24_0, hue24_1⟩ := hr26;replace he26 : Elf _ _ 35 _ _ := he26;have hi26 := he26.ixd;refine qi Tryz.underlying35 Ty.size60 hi26 hp26 ?_;refine qr (O_ldg 0 (Chunk.cells x23 ue24_0 ue24_1) Ty.agg60 Ty.size60 rfl he26 (by omega) rfl (Nat.le_of_ble_eq_true rfl)) ?_;refine xm (E_alc (cs := idCells (List.replicate 32 (0 : UInt8)) ++ [.b false, .sl none 0 (.k 0), .sl none 0 (.k 0)]) Ty.zero60 rfl hS14) ?_;rintro _ w25 ⟨g25, rfl, hS25⟩;refine um (E_bst (c := idCells x23.id ++ [.b x23.staged, ue24_0, ue24_1]) 0 (idCells x23.id ++ [.b x23.staged, ue24_0, ue24_1]) rfl rfl hS25 rfl rfl Ty.size60 (by simp only [List.all_cons, List.all_nil, List.all_append, hue24_0.ln.one, hue24_1.ln.one]; rfl) rfl rfl) ?_;rintro _ w27 hS27;refine qn ?_;refine C_seq ?_;obtain ⟨r28, hr28, H⟩ := bd_some H;refine qd ?_;refine qc ?_;refine qr (O_bldg 0 (Chunk.cells x23 ue24_0 ue24_1) Ty.agg60 Ty.size60 (Nat.zero_lt_succ _) rfl hS27 rfl (fun q u h => sub_at (post := []) rfl h)) ?_;refine lm (rebuild_Part_2_ok hS27.good hue24_0 hue24_1 hle24_0 hr28) ?_;rintro v29 w29 ⟨Fr28, rfl, hT29⟩;have hS29 := hS27.lent hT29;refine qm ?_;refine C_cond rfl (fun hc30 => ?_) (fun hc30 => ?_)
      ·rw [if_t hc30] at H;refine C_seq ?_;obtain ⟨x31, hx31, H⟩ := bd_some H;refine qd ?_;refine q2 ?_;refine qr (O_bldg 0 (Chunk.cells x23 ue24_0 ue24_1) Ty.agg60 Ty.size60 (Nat.zero_lt_succ _) rfl hS29 rfl (fun q u h => sub_at (post := []) rfl h)) ?_;obtain ⟨hp33, hy33⟩ := ix_some hx31;obtain ⟨cs33, hr33, he33⟩ := hS29.rowAt (k := 1) rfl hy33;obtain ⟨ue32_0, ue32_1, rfl, hle32_0, hue32_0, hue32_1⟩ := hr33;replace he33 : Elf _ _ 35 _ _ := he33;have hi33 := he33.ixd;refine qi Tryz.underlying35 Ty.size60 hi33 hp33 ?_;refine um (E_put (c := idCells x23.id ++ [.b x23.staged, ue24_0, ue24_1]) 1 (i15.toNat) 0 x31 x23 rfl rfl hS29 rfl (ix_some hx31).2 (by first | rfl | (show _ = _ * 35 + _; omega)) rfl Ty.size60 (by simp only [List.all_cons, List.all_nil, List.all_append, hue24_0.ln.one, hue24_1.ln.one]; rfl) (Nat.le_of_ble_eq_true rfl) (by rintro cs ⟨a2, a3, rfl, c0, b2, b3⟩; exact ⟨ue24_0, ue24_1, rfl, hle24_0, hue24_0, hue24_1⟩)) ?_;rintro _ w34 hS34;refine qn ?_;refine qd ?_;refine q3 ?_;refine W_nil ?_;refine N_block ?_;exact N_join _ ⟨wr (i15 + 1), (l17.set i15.toNat x23), H, ⟨F14, rfl, (Frz.le.refl _), hS34.pick [1] (by decide)⟩⟩ ⟨rfl, rfl, rfl, rfl, trivial⟩
      ·rw [if_f hc30] at H;refine C_skip ?_;refine N_block ?_;exact N_join _ ⟨i15, l17, H, ⟨F14, rfl, (Frz.le.refl _), hS29.pick [1] (by decide)⟩⟩ ⟨rfl, rfl, rfl, rfl, trivial⟩
     ·rintro E w20 ⟨i21, l22, H, F20, rfl, le20, hS20⟩;dsimp only [slices_DeleteFunc_api_Chunk_api_Chunk_rebuild_Part_2.k3] at H;refine qd ?_;refine q3 ?_;refine W_nil ?_;exact N_againM (i21, wr (i16 + 1), l22) _ H ⟨F20, rfl, (le14.trans le20), hS20⟩ ⟨rfl, rfl, rfl, rfl, trivial⟩
    ·rw [if_f hc19] at H;refine C_exit _ rfl ?_;exact N_join _ ⟨i15, l17, H, ⟨F14, rfl, le14, hS14⟩⟩ ⟨rfl, rfl, trivial⟩
  ·rintro E w4 ⟨i5, l6, H, F4, rfl, le4, hS4⟩;dsimp only [slices_DeleteFunc_api_Chunk_api_Chunk_rebuild_Part_2.k1] at H;refine C_seq ?_;obtain ⟨l7, hl7, H⟩ := bd_some H;obtain ⟨l9, hl9, H⟩ := bd_some H;refine qd ?_;refine q2 ?_;refine W_cutR 0 i5 (l6.length : Int) rfl rfl rfl rfl Tryz.underlying35 Ty.size60 rfl (.inr ⟨_, _, rfl, rfl⟩) (.inl ⟨rfl, rfl⟩) hS4 rfl hl7 ?_;intro q8 hv8 hw8;refine um (E_clr (tr := Chunk.t) (x0 := (Chunk.mk (List.replicate 32 (0 : UInt8)) false [] [])) 0 Tryz.underlying35 Ty.zero60 ⟨.sl none 0 (.k 0), .sl none 0 (.k 0), rfl, (List.length_replicate), (SlF.nil _), (SlF.nil _)⟩ rfl hS4 rfl hw8 hl9) ?_;rintro _ w10 hS10;refine qn ?_;refine C_seq ?_;obtain ⟨l11, hl11, H⟩ := bd_some H;refine qd ?_;refine q2 ?_;refine W_cutR 0 0 i5 rfl rfl rfl rfl Tryz.underlying35 Ty.size60 rfl (.inl ⟨rfl, rfl⟩) (.inr ⟨_, _, rfl, rfl⟩) hS10 rfl hl11 ?_;intro q12 hv12 hw12;refine qm ?_;obtain ⟨_, hnz13, H⟩ := bd_some H;have hS13 := hS10.shrink 0 rfl hw12 hl11 hnz13;obtain rfl := oi H;refine C_ret rfl rfl ?_;exact ⟨F4, q12, rfl, hS13⟩
def rebuild_Part.k3 (r7 : Catalog) (r12 : (List Snap)) (l19 : List Chunk) (i23 : Int) : Option Catalog :=
  some (Catalog.mk i23 r12 l19 r7.exps r7.vols)
def rebuild_Part.l4 (r7 : Catalog) (r12 : (List Snap)) (l19 : List Chunk) (rec33 : (Int × Int) → Option Catalog) : (Int × Int) → Option Catalog
  | (i31, i32) =>
    if decide (i31 < (r7.exps.length : Int)) then
      bd (ix r7.exps i31) fun x35 =>
      rec33 (wr (i31 + 1), (if i32 < wr (x35.seq + 1) then wr (x35.seq + 1) else i32))
    else
      rebuild_Part.k3 r7 r12 l19 i32
def rebuild_Part.k2 (r7 : Catalog) (r12 : (List Snap)) (l19 : List Chunk) (i21 : Int) : Option Catalog :=
  loop (rebuild_Part.l4 r7 r12 l19) (0, i21)
def rebuild_Part.l5 (r7 : Catalog) (r12 : (List Snap)) (l19 : List Chunk) (rec44 : (Int × Int) → Option Catalog) : (Int × Int) → Option Catalog
  | (i42, i43) =>
    if decide (i42 < (r12.length : Int)) then
      bd (ix r12 i42) fun x46 =>
      rec44 (wr (i42 + 1), (if i43 < wr (x46.seq + 1) then wr (x46.seq + 1) else i43))
    else
      rebuild_Part.k2 r7 r12 l19 i43
def rebuild_Part.k1 (r7 : Catalog) (r12 : (List Snap)) (l19 : List Chunk) : Option Catalog :=
  loop (rebuild_Part.l5 r7 r12 l19) (0, 0)
def rebuild_Part.l6 (r7 : Catalog) (r12 : (List Snap)) (r15 : (List Chunk)) (rec55 : (Int × (List Chunk)) → Option Catalog) : (Int × (List Chunk)) → Option Catalog
  | (i53, l54) =>
    if decide (i53 < (r15.length : Int)) then
      bd (ix l54 i53) fun x57 =>
      bd (ix (l54.set i53.toNat (Chunk.mk x57.id false x57.data x57.locs)) i53) fun x59 =>
      rec55 (wr (i53 + 1), ((l54.set i53.toNat (Chunk.mk x57.id false x57.data x57.locs)).set i53.toNat (Chunk.mk x59.id x59.staged [] x59.locs)))
    else
      rebuild_Part.k1 r7 r12 l54
def rebuild_Part (x0 : Catalog) : Option Catalog :=
  bd (catalog_Check x0) fun r3 =>
  if decide (r3 ≠ 0) then
    some (Catalog.mk 0 [] [] [] [])
  else
    bd (catalog_Twin x0) fun r7 =>
    bd (slices_DeleteFunc_api_Snap_api_Snap_rebuild_Part_1 r7.snaps) fun r12 =>
    bd (slices_DeleteFunc_api_Chunk_api_Chunk_rebuild_Part_2 r7.chunks) fun r15 =>
    loop (rebuild_Part.l6 r7 r12 r15) (0, r15)
set_option maxRecDepth 100000 in
set_option maxHeartbeats 2000000 in
theorem rebuild_Part_ok {K : Tb} [Kn (KExt Tryz.prog) K] {F : Frz} {w : Hp} {x0 : Catalog} {r : Catalog} {v0_0 : Val} {v0_1 : Val} {v0_2 : Val} {v0_3 : Val} (hA : Gd F w) (h0_0 : SlF Snap.t F v0_0 x0.snaps) (h0_1 : SlF Chunk.t F v0_1 x0.chunks) (h0_2 : SlF Exp.t F v0_2 x0.exps) (h0_3 : SlF Vol.t F v0_3 x0.vols) (H : rebuild_Part x0 = some r) : Ret Tryz.prog K 23 [.agg (Catalog.cells x0 v0_0 v0_1 v0_2 v0_3)] w fun v w' => ∃ (F' : Frz) (q0_0 : Val) (q0_1 : Val) (q0_2 : Val) (q0_3 : Val), v = .agg (Catalog.cells r q0_0 q0_1 q0_2 q0_3) ∧ SlF Snap.t F' q0_0 (r.snaps) ∧ SlF Chunk.t F' q0_1 (r.chunks) ∧ SlF Exp.t F' q0_2 (r.exps) ∧ SlF Vol.t F' q0_3 (r.vols) ∧ St [] w F F' [] w' := by
 refine qa1 Tryz.func23 ?_;have hS := St.start hA;dsimp only [rebuild_Part] at H;refine qs ?_;refine xm (E_bx (cs := [.i .i64 x0.seq, v0_0, v0_1, v0_2, v0_3]) rfl rfl (by simp only [List.all_cons, List.all_nil, List.all_append, h0_0.ln.one, h0_1.ln.one, h0_2.ln.one, h0_3.ln.one]; rfl) hS) ?_;rintro _ w1 ⟨g1, rfl, hS1⟩;refine xm (E_alc (cs := [.i .i64 0, .sl none 0 (.k 0), .sl none 0 (.k 0), .sl none 0 (.k 0), .sl none 0 (.k 0)]) Ty.zero38 rfl hS1) ?_;rintro _ w2 ⟨g2, rfl, hS2⟩;refine qn ?_;refine C_seq ?_;refine C_seq ?_;obtain ⟨r3, hr3, H⟩ := bd_some H;refine qd ?_;refine qr (O_bldg 1 (Catalog.cells x0 v0_0 v0_1 v0_2 v0_3) Ty.agg38 Ty.size38 (Nat.zero_lt_succ _) rfl hS2 rfl (fun q u h => sub_at (post := []) rfl h)) ?_;refine lm (catalog_Check_ok hS2.good h0_0 h0_1 h0_2 h0_3 hr3) ?_;rintro v4 w4 ⟨Fr3, rfl, hT4⟩;have hS4 := hS2.lent hT4;refine qr (O_bin rfl rfl bI_neq) ?_;refine qn ?_;refine C_cond rfl (fun hc5 => ?_) (fun hc5 => ?_)
 ·rw [if_t hc5] at H;refine qs ?_;refine W_c (v := .agg (Catalog.cells (Catalog.mk 0 [] [] [] []) (.sl none 0 (.k 0)) (.sl none 0 (.k 0)) (.sl none 0 (.k 0)) (.sl none 0 (.k 0)))) rfl rfl rfl rfl (fun _ => rfl) ?_;refine um (E_bst (c := [.i .i64 0, .sl none 0 (.k 0), .sl none 0 (.k 0), .sl none 0 (.k 0), .sl none 0 (.k 0)]) 0 ([.i .i64 0, .sl none 0 (.k 0), .sl none 0 (.k 0), .sl none 0 (.k 0), .sl none 0 (.k 0)]) rfl rfl hS4 rfl rfl Ty.size38 rfl rfl rfl) ?_;rintro _ w6 hS6;refine qn ?_;obtain rfl := oi H;refine C_retM (vs := [.agg (Catalog.cells (Catalog.mk 0 [] [] [] []) (.sl none 0 (.k 0)) (.sl none 0 (.k 0)) (.sl none 0 (.k 0)) (.sl none 0 (.k 0)))]) rfl ⟨(box_out 0 Ty.agg38 Ty.size38 hS6 rfl rfl), trivial⟩ ?_;exact ⟨F, .sl none 0 (.k 0), .sl none 0 (.k 0), .sl none 0 (.k 0), .sl none 0 (.k 0), rfl, (SlF.nil _), (SlF.nil _), (SlF.nil _), (SlF.nil _), hS6.pick [] (by decide)⟩
 ·rw [if_f hc5] at H;refine qk ?_;refine C_seq ?_;obtain ⟨r7, hr7, H⟩ := bd_some H;refine qd ?_;refine qr (O_bldg 1 (Catalog.cells x0 v0_0 v0_1 v0_2 v0_3) Ty.agg38 Ty.size38 (Nat.zero_lt_succ _) rfl hS4 rfl (fun q u h => sub_at (post := []) rfl h)) ?_;refine lm (catalog_Twin_ok hS4.good h0_0 h0_1 h0_2 h0_3 hr7) ?_;rintro v9 w9 ⟨Fr7, ur7_0_0, ur7_0_1, ur7_0_2, ur7_0_3, rfl, hT9⟩;have hS9 := hS4.call hT9;have ler7 := hT9.ext;refine xm (E_alc (cs := [.i .i64 0, .sl none 0 (.k 0), .sl none 0 (.k 0), .sl none 0 (.k 0), .sl none 0 (.k 0)]) Ty.zero38 rfl hS9) ?_;rintro _ w8 ⟨g8, rfl, hS8⟩;refine um (E_bst (c := [.i .i64 r7.seq, ur7_0_0, ur7_0_1, ur7_0_2, ur7_0_3]) 0 ([.i .i64 r7.seq, ur7_0_0, ur7_0_1, ur7_0_2, ur7_0_3]) rfl rfl hS8 rfl rfl Ty.size38 (by simp only [List.all_cons, List.all_nil, List.all_append, (hS8.rowLn (k := 1) rfl).one, (hS8.rowLn (k := 2) rfl).one, (hS8.rowLn (k := 3) rfl).one, (hS8.rowLn (k := 4) rfl).one]; rfl) rfl rfl) ?_;rintro _ w10 hS10;refine qn ?_;refine qs ?_;refine qf Ty.field38_0 ?_;refine um (E_bst (c := [.i .i64 0]) 0 ([.i .i64 0, ur7_0_0, ur7_0_1, ur7_0_2, ur7_0_3]) rfl rfl hS10 rfl rfl Ty.size3 rfl rfl rfl) ?_;rintro _ w11 hS11;refine qn ?_;refine C_seq ?_;obtain ⟨r12, hr12, H⟩ := bd_some H;refine qd ?_;refine qf Ty.field38_1 ?_;refine qb 0 Ty.cell34 hS11 ?_;refine lm (slices_DeleteFunc_api_Snap_api_Snap_rebuild_Part_1_ok (hS11.lendRow 1 rfl) hr12) ?_;rintro ur12_0 w13 ⟨Fr12, _, rfl, hT13⟩;have hS13 := hS11.backRow 1 [0, 2, 3, 4, 5, 6] rfl (by decide) (by decide) hT13;have ler12 := hT13.ext;refine qf Ty.field38_1 ?_;refine um (E_bst (c := [ur12_0]) 1 ([.i .i64 0, ur12_0, ur7_0_1, ur7_0_2, ur7_0_3]) rfl rfl hS13 rfl (hS13.rowLn (k := 0) rfl).cells Ty.size34 (by simp only [List.all_cons, List.all_nil, List.all_append, (hS13.rowLn (k := 0) rfl).one]; rfl) rfl rfl) ?_;rintro _ w14 hS14;refine qn ?_;refine C_seq ?_;obtain ⟨r15, hr15, H⟩ := bd_some H;refine qd ?_;refine qf Ty.field38_2 ?_;refine qb 1 Ty.cell35 hS14 ?_;refine lm (slices_DeleteFunc_api_Chunk_api_Chunk_rebuild_Part_2_ok (hS14.lendRow 2 rfl) hr15) ?_;rintro ur15_0 w16 ⟨Fr15, _, rfl, hT16⟩;have hS16 := hS14.backRow 2 [0, 1, 3, 4, 5, 6] rfl (by decide) (by decide) hT16;have ler15 := hT16.ext;refine qf Ty.field38_2 ?_;refine um (E_bst (c := [ur15_0]) 2 ([.i .i64 0, ur12_0, ur15_0, ur7_0_2, ur7_0_3]) rfl rfl hS16 rfl (hS16.rowLn (k := 0) rfl).cells Ty.size35 (by simp only [List.all_cons, List.all_nil, List.all_append, (hS16.rowLn (k := 0) rfl).one]; rfl) rfl rfl) ?_;rintro _ w17 hS17
  refine qn ?_;refine C_seq_join (fun E wq => ∃ l19 : List Chunk, rebuild_Part.k1 r7 r12 l19 = some r ∧ ∃ (F18 : Frz), E = [(2, pl g2 0), (3, pl g8 0)] ∧ Fr15.le F18 ∧ St [] w F F18 [.row Chunk.t ur15_0 l19, .row Snap.t ur12_0 r12, .box g8 [.i .i64 0, ur12_0, ur15_0, ur7_0_2, ur7_0_3], .row Exp.t ur7_0_2 r7.exps, .row Vol.t ur7_0_3 r7.vols, .box g2 [.i .i64 0, .sl none 0 (.k 0), .sl none 0 (.k 0), .sl none 0 (.k 0), .sl none 0 (.k 0)]] wq) ?_ ?_
  ·refine qs ?_;refine qf Ty.field38_2 ?_;refine qb 2 Ty.cell35 hS17 ?_;refine qr (O_len Tryz.underlying35 rfl (hS17.rowLn (k := 0) rfl)) ?_;refine qm ?_;refine C_block ?_;refine C_loopM (fun (s : Int × (List Chunk)) E wq => ∃ (F52 : Frz), E = [(2, pl g2 0), (3, pl g8 0), (26, .i .i64 (r15.length : Int)), (27, .i .i64 s.1)] ∧ Fr15.le F52 ∧ St [] w F F52 [.row Chunk.t ur15_0 s.2, .row Snap.t ur12_0 r12, .box g8 [.i .i64 0, ur12_0, ur15_0, ur7_0_2, ur7_0_3], .row Exp.t ur7_0_2 r7.exps, .row Vol.t ur7_0_3 r7.vols, .box g2 [.i .i64 0, .sl none 0 (.k 0), .sl none 0 (.k 0), .sl none 0 (.k 0), .sl none 0 (.k 0)]] wq) H ?_ ?_
   ·exact ⟨_, ⟨Fr15, rfl, (Frz.le.refl _), hS17.pick [0, 1, 2, 3, 4, 5] (by decide)⟩, ⟨rfl, rfl, rfl, rfl, trivial⟩⟩
   ·rintro rec55 ⟨i53, l54⟩ E w52 hI H
    try dsimp only at hI
    obtain ⟨F52, rfl, le52, hS52⟩ := hI;dsimp only [rebuild_Part.l6] at H;refine qs ?_;refine qr (O_bin rfl rfl bI_lss) ?_;refine qn ?_;refine C_seq ?_;refine C_cond rfl (fun hc56 => ?_) (fun hc56 => ?_)
    ·rw [if_t hc56] at H;refine qk ?_;refine C_seq ?_;refine C_block ?_;refine qs ?_;refine qc ?_;refine qm ?_;obtain ⟨x57, hx57, H⟩ := bd_some H;obtain ⟨x59, hx59, H⟩ := bd_some H;have hb61 := hS52.boxAt 2 rfl;refine C_regionD (G := (F52.hold w52 [g8])) [0, 1, 2, 3, 4, 5, 6, 7, 8, 9, 10, 11] rfl Ty.mixed (by kernel_rfl) (HB.agree (HB.cons 2 hb61 hS52 rfl HB.nil) hS52.agree) ?_;refine qf Ty.field38_2 ?_;refine qbq 2 Ty.cell35 hS52 ?_;refine qc ?_;refine qf Ty.field38_2 ?_;refine qr (O_fld1 Ty.cell35 rfl (hb61.held (HB.cons 2 hb61 hS52 rfl HB.nil) (by simp)) rfl) ?_;refine qc ?_;obtain ⟨hp62, hy62⟩ := ix_some hx57;obtain ⟨cs62, hr62, he62⟩ := hS52.rowAt (k := 0) rfl hy62;obtain ⟨ue58_0, ue58_1, rfl, hle58_0, hue58_0, hue58_1⟩ := hr62;replace he62 : Elf _ _ 35 _ _ := he62;have hi62 := he62.ixd;refine qi Tryz.underlying35 Ty.size60 hi62 hp62 ?_;refine qr (O_fld 32 Ty.field60_1 rfl hi62) ?_;refine qu (E_put (c := [.b false]) 0 (i53.toNat) 32 x57 (Chunk.mk x57.id false x57.data x57.locs) rfl rfl hS52 rfl (ix_some hx57).2 (by first | rfl | (show _ = _ * 35 + _; omega)) rfl Ty.size4 rfl (Nat.le_of_ble_eq_true rfl) (by rintro cs ⟨a2, a3, rfl, c0, b2, b3⟩; exact ⟨a2, a3, rfl, c0, b2, b3⟩)) ?_;rintro _ w63 hS63;refine qh 2 hb61 hS63 ?_;obtain ⟨hp64, hy64⟩ := ix_some hx59;obtain ⟨cs64, hr64, he64⟩ := hS63.rowAt (k := 0) rfl hy64;obtain ⟨ue60_0, ue60_1, rfl, hle60_0, hue60_0, hue60_1⟩ := hr64;replace he64 : Elf _ _ 35 _ _ := he64;have hi64 := he64.ixd;refine qi Tryz.underlying35 Ty.size60 hi64 hp64 ?_;refine qr (O_fld 33 Ty.field60_2 rfl hi64) ?_;refine qu (E_put (c := [.sl none 0 (.k 0)]) 0 (i53.toNat) 33 x59 (Chunk.mk x59.id x59.staged [] x59.locs) rfl rfl hS63 rfl (ix_some hx59).2 (by first | rfl | (show _ = _ * 35 + _; omega)) rfl Ty.size47 rfl (Nat.le_of_ble_eq_true rfl) (by rintro cs ⟨a2, a3, rfl, c0, b2, b3⟩; exact ⟨.sl none 0 (.k 0), a3, rfl, c0, (SlF.nil _), b3⟩)) ?_;rintro _ w65 hS65;refine qh 2 hb61 hS65 ?_;refine W_nil ?_;refine N_block ?_;refine N_code ?_;refine qd ?_;refine q2 ?_;refine W_nil ?_;exact N_againM (wr (i53 + 1), ((l54.set i53.toNat (Chunk.mk x57.id false x57.data x57.locs)).set i53.toNat (Chunk.mk x59.id x59.staged [] x59.locs))) _ H ⟨F52, rfl, le52, hS65⟩ ⟨rfl, rfl, rfl, rfl, trivial⟩
    ·rw [if_f hc56] at H;refine C_exit _ rfl ?_;exact N_join _ ⟨l54, H, ⟨F52, rfl, le52, hS52⟩⟩ ⟨rfl, rfl, trivial⟩
  ·rintro E w18 ⟨l19, H, F18, rfl, le18, hS18⟩;dsimp only [rebuild_Part.k1] at H;refine C_seq_join (fun E wq => ∃ i21 : Int, rebuild_Part.k2 r7 r12 l19 i21 = some r ∧ ∃ (F20 : Frz), E = [(2, pl g2 0), (3, pl g8 0)] ∧ F18.le F20 ∧ St [] w F F20 [.row Chunk.t ur15_0 l19, .row Snap.t ur12_0 r12, .box g8 [.i .i64 i21, ur12_0, ur15_0, ur7_0_2, ur7_0_3], .row Exp.t ur7_0_2 r7.exps, .row Vol.t ur7_0_3 r7.vols, .box g2 [.i .i64 0, .sl none 0 (.k 0), .sl none 0 (.k 0), .sl none 0 (.k 0), .sl none 0 (.k 0)]] wq) ?_ ?_
   ·refine qs ?_;refine qf Ty.field38_1 ?_;refine qb 2 Ty.cell34 hS18 ?_;refine qr (O_len Tryz.underlying34 rfl (hS18.rowLn (k := 1) rfl)) ?_;refine qm ?_;refine C_block ?_;refine C_loopM (fun (s : Int × Int) E wq => ∃ (F41 : Frz), E = [(2, pl g2 0), (3, pl g8 0), (42, ur12_0), (43, .i .i64 (r12.length : Int)), (44, .i .i64 s.1)] ∧ F18.le F41 ∧ St [] w F F41 [.row Chunk.t ur15_0 l19, .row Snap.t ur12_0 r12, .box g8 [.i .i64 s.2, ur12_0, ur15_0, ur7_0_2, ur7_0_3], .row Exp.t ur7_0_2 r7.exps, .row Vol.t ur7_0_3 r7.vols, .box g2 [.i .i64 0, .sl none 0 (.k 0), .sl none 0 (.k 0), .sl none 0 (.k 0), .sl none 0 (.k 0)]] wq) H ?_ ?_
    ·exact ⟨_, ⟨F18, rfl, (Frz.le.refl _), hS18⟩, ⟨rfl, rfl, rfl, rfl, rfl, trivial⟩⟩
    ·rintro rec44 ⟨i42, i43⟩ E w41 hI H
     try dsimp only at hI
     obtain ⟨F41, rfl, le41, hS41⟩ := hI;dsimp only [rebuild_Part.l5] at H;refine qs ?_;refine qr (O_bin rfl rfl bI_lss) ?_;refine qn ?_;refine C_seq ?_;refine C_cond rfl (fun hc45 => ?_) (fun hc45 => ?_)
     ·rw [if_t hc45] at H;refine qk ?_;refine C_seq ?_;refine C_block ?_;refine C_seq ?_;obtain ⟨x46, hx46, H⟩ := bd_some H;refine qd ?_;obtain ⟨hp49, hy49⟩ := ix_some hx46;obtain ⟨cs49, hr49, he49⟩ := hS41.rowAt (k := 1) rfl hy49;obtain ⟨ue47_0, ue47_1, rfl, hue47_0, hue47_1⟩ := hr49;replace he49 : Elf _ _ 4 _ _ := he49;have hi49 := he49.ixd;refine qi Tryz.underlying34 Ty.size46 hi49 hp49 ?_;refine qr (O_ldg 0 (Snap.cells x46 ue47_0 ue47_1) Ty.agg46 Ty.size46 rfl he49 (by omega) rfl (Nat.le_of_ble_eq_true rfl)) ?_;refine xm (E_alc (cs := [.i .i64 0, .s [], .sl none 0 (.k 0), .sl none 0 (.k 0)]) Ty.zero46 rfl hS41) ?_;rintro _ w48 ⟨g48, rfl, hS48⟩;refine um (E_bst (c := [.i .i64 x46.seq, .s x46.man.name, ue47_0, ue47_1]) 0 ([.i .i64 x46.seq, .s x46.man.name, ue47_0, ue47_1]) rfl rfl hS48 rfl rfl Ty.size46 (by simp only [List.all_cons, List.all_nil, List.all_append, hue47_0.ln.one, hue47_1.ln.one]; rfl) rfl rfl) ?_;rintro _ w50 hS50;refine qn ?_;refine qd ?_;refine qf Ty.field38_0 ?_;refine qb 3 Ty.cell3 hS50 ?_;refine qf Ty.field46_0 ?_;refine qb 0 Ty.cell3 hS50 ?_;refine q2 ?_;refine qf Ty.field38_0 ?_;refine um (E_bst (c := [.i .i64 (if i43 < wr (x46.seq + 1) then wr (x46.seq + 1) else i43)]) 3 ([.i .i64 (if i43 < wr (x46.seq + 1) then wr (x46.seq + 1) else i43), ur12_0, ur15_0, ur7_0_2, ur7_0_3]) rfl rfl hS50 rfl rfl Ty.size3 rfl rfl rfl) ?_;rintro _ w51 hS51;refine W_nil ?_;refine N_block ?_;refine N_code ?_;refine qd ?_;refine q2 ?_;refine W_nil ?_;exact N_againM (wr (i42 + 1), (if i43 < wr (x46.seq + 1) then wr (x46.seq + 1) else i43)) _ H ⟨F41, rfl, le41, hS51.pick [1, 2, 3, 4, 5, 6] (by decide)⟩ ⟨rfl, rfl, rfl, rfl, rfl, trivial⟩
     ·rw [if_f hc45] at H;refine C_exit _ rfl ?_;exact N_join _ ⟨i43, H, ⟨F41, rfl, le41, hS41⟩⟩ ⟨rfl, rfl, trivial⟩
   ·rintro E w20 ⟨i21, H, F20, rfl, le20, hS20⟩;dsimp only [rebuild_Part.k2] at H;refine C_seq_join (fun E wq => ∃ i23 : Int, rebuild_Part.k3 r7 r12 l19 i23 = some r ∧ ∃ (F22 : Frz), E = [(2, pl g2 0), (3, pl g8 0)] ∧ F20.le F22 ∧ St [] w F F22 [.row Chunk.t ur15_0 l19, .row Snap.t ur12_0 r12, .box g8 [.i .i64 i23, ur12_0, ur15_0, ur7_0_2, ur7_0_3], .row Exp.t ur7_0_2 r7.exps, .row Vol.t ur7_0_3 r7.vols, .box g2 [.i .i64 0, .sl none 0 (.k 0), .sl none 0 (.k 0), .sl none 0 (.k 0), .sl none 0 (.k 0)]] wq) ?_ ?_
    ·refine qs ?_;refine qf Ty.field38_3 ?_;refine qb 2 Ty.cell36 hS20 ?_;refine qr (O_len Tryz.underlying36 rfl (hS20.rowLn (k := 3) rfl)) ?_;refine qm ?_;refine C_block ?_;refine C_loopM (fun (s : Int × Int) E wq => ∃ (F30 : Frz), E = [(2, pl g2 0), (3, pl g8 0), (57, ur7_0_2), (58, .i .i64 (r7.exps.length : Int)), (59, .i .i64 s.1)] ∧ F20.le F30 ∧ St [] w F F30 [.row Chunk.t ur15_0 l19, .row Snap.t ur12_0 r12, .box g8 [.i .i64 s.2, ur12_0, ur15_0, ur7_0_2, ur7_0_3], .row Exp.t ur7_0_2 r7.exps, .row Vol.t ur7_0_3 r7.vols, .box g2 [.i .i64 0, .sl none 0 (.k 0), .sl none 0 (.k 0), .sl none 0 (.k 0), .sl none 0 (.k 0)]] wq) H ?_ ?_
     ·exact ⟨_, ⟨F20, rfl, (Frz.le.refl _), hS20⟩, ⟨rfl, rfl, rfl, rfl, rfl, trivial⟩⟩
     ·rintro rec33 ⟨i31, i32⟩ E w30 hI H
      try dsimp only at hI
      obtain ⟨F30, rfl, le30, hS30⟩ := hI;dsimp only [rebuild_Part.l4] at H;refine qs ?_;refine qr (O_bin rfl rfl bI_lss) ?_;refine qn ?_;refine C_seq ?_;refine C_cond rfl (fun hc34 => ?_) (fun hc34 => ?_)
      ·rw [if_t hc34] at H;refine qk ?_;refine C_seq ?_;refine C_block ?_;refine C_seq ?_;obtain ⟨x35, hx35, H⟩ := bd_some H;refine qd ?_;obtain ⟨hp38, hy38⟩ := ix_some hx35;obtain ⟨cs38, hr38, he38⟩ := hS30.rowAt (k := 3) rfl hy38;obtain ⟨ue36_0, rfl, hue36_0⟩ := hr38;replace he38 : Elf _ _ 3 _ _ := he38;have hi38 := he38.ixd;refine qi Tryz.underlying36 Ty.size55 hi38 hp38 ?_;refine qr (O_ldg 0 (Exp.cells x35 ue36_0) Ty.agg55 Ty.size55 rfl he38 (by omega) rfl (Nat.le_of_ble_eq_true rfl)) ?_;refine xm (E_alc (cs := [.i .i64 0, .i .i64 0, .sl none 0 (.k 0)]) Ty.zero55 rfl hS30) ?_;rintro _ w37 ⟨g37, rfl, hS37⟩;refine um (E_bst (c := [.i .i64 x35.seq, .i .i64 x35.of, ue36_0]) 0 ([.i .i64 x35.seq, .i .i64 x35.of, ue36_0]) rfl rfl hS37 rfl rfl Ty.size55 (by simp only [List.all_cons, List.all_nil, List.all_append, hue36_0.ln.one]; rfl) rfl rfl) ?_;rintro _ w39 hS39;refine qn ?_;refine qd ?_;refine qf Ty.field38_0 ?_;refine qb 3 Ty.cell3 hS39 ?_;refine qf Ty.field55_0 ?_;refine qb 0 Ty.cell3 hS39 ?_;refine q2 ?_;refine qf Ty.field38_0 ?_;refine um (E_bst (c := [.i .i64 (if i32 < wr (x35.seq + 1) then wr (x35.seq + 1) else i32)]) 3 ([.i .i64 (if i32 < wr (x35.seq + 1) then wr (x35.seq + 1) else i32), ur12_0, ur15_0, ur7_0_2, ur7_0_3]) rfl rfl hS39 rfl rfl Ty.size3 rfl rfl rfl) ?_;rintro _ w40 hS40;refine W_nil ?_;refine N_block ?_;refine N_code ?_;refine qd ?_;refine q2 ?_;refine W_nil ?_;exact N_againM (wr (i31 + 1), (if i32 < wr (x35.seq + 1) then wr (x35.seq + 1) else i32)) _ H ⟨F30, rfl, le30, hS40.pick [1, 2, 3, 4, 5, 6] (by decide)⟩ ⟨rfl, rfl, rfl, rfl, rfl, trivial⟩
      ·rw [if_f hc34] at H;refine C_exit _ rfl ?_;exact N_join _ ⟨i32, H, ⟨F30, rfl, le30, hS30⟩⟩ ⟨rfl, rfl, trivial⟩
    ·rintro E w22 ⟨i23, H, F22, rfl, le22, hS22⟩;dsimp only [rebuild_Part.k3] at H;refine qs ?_;refine qr (O_bldg 2 (Catalog.cells (Catalog.mk i23 r12 l19 r7.exps r7.vols) ur12_0 ur15_0 ur7_0_2 ur7_0_3) Ty.agg38 Ty.size38 (Nat.zero_lt_succ _) rfl hS22 rfl (fun q u h => sub_at (post := []) rfl h)) ?_;refine um (E_bst (c := [.i .i64 i23, ur12_0, ur15_0, ur7_0_2, ur7_0_3]) 5 ([.i .i64 i23, ur12_0, ur15_0, ur7_0_2, ur7_0_3]) rfl rfl hS22 rfl rfl Ty.size38 (by simp only [List.all_cons, List.all_nil, List.all_append, (hS22.rowLn (k := 1) rfl).one, (hS22.rowLn (k := 0) rfl).one, (hS22.rowLn (k := 3) rfl).one, (hS22.rowLn (k := 4) rfl).one]; rfl) rfl rfl) ?_;rintro _ w24 hS24;refine qn ?_;obtain ⟨F25, le25, hf25, hS25⟩ := hS24.freezeR 1 [0, 2, 3, 4, 5] rfl (by decide) (by decide);obtain ⟨F26, le26, hf26, hS26⟩ := hS25.freezeR 0 [1, 2, 3, 4] rfl (by decide) (by decide);obtain ⟨F27, le27, hf27, hS27⟩ := hS26.freezeR 1 [0, 2, 3] rfl (by decide) (by decide);have hS28 : St [] w F F27 [.box g8 [.i .i64 i23, ur12_0, ur15_0, ur7_0_2, ur7_0_3], .row Vol.t ur7_0_3 r7.vols, .box g2 [.i .i64 i23, ur12_0, ur15_0, ur7_0_2, ur7_0_3]] _ := hS27;obtain ⟨F29, le29, hf29, hS29⟩ := hS28.freezeR 1 [0, 2] rfl (by decide) (by decide);obtain rfl := oi H;refine C_retM (vs := [.agg (Catalog.cells (Catalog.mk i23 r12 l19 r7.exps r7.vols) ur12_0 ur15_0 ur7_0_2 ur7_0_3)]) rfl ⟨(box_out 1 Ty.agg38 Ty.size38 hS29 rfl rfl), trivial⟩ ?_;exact ⟨F29, ur12_0, ur15_0, ur7_0_2, ur7_0_3, rfl, (hf25.mono ((le26.trans le27).trans le29)), (hf26.mono (le27.trans le29)), (hf27.mono le29), hf29, hS29.pick [] (by decide)⟩
end
end Go.Wk.Lf
end
section
namespace Go.Wk.Lf
open Go.V Go.Proofs
noncomputable section
end
end Go.Wk.Lf
end
section
namespace Go.Wk.Lf
open Go.V Go.Proofs
open Go.V Go.Proofs Go.Sort
abbrev KK : Tb := fun f args h M => KSort Go.Proofs.Tryz.prog KNone 99 4 f args h M ∨ KSort Go.Proofs.Tryz.prog (KExt Go.Proofs.Tryz.prog) 168 32 f args h M ∨ KExt Go.Proofs.Tryz.prog f args h M ∨ KLap Go.Proofs.Tryz.prog f args h M ∨ KClose Go.Proofs.Tryz.prog (KLap Go.Proofs.Tryz.prog) 86 f args h M ∨ KClose Go.Proofs.Tryz.prog (KLap Go.Proofs.Tryz.prog) 91 f args h M ∨ KClose Go.Proofs.Tryz.prog (KLap Go.Proofs.Tryz.prog) 95 f args h M
instance : Kn (KExt Go.Proofs.Tryz.prog) KK := ⟨fun _ _ _ _ h => .inr (.inr (.inl h))⟩
theorem kk_lap : ∀ f args h M, KLap Go.Proofs.Tryz.prog f args h M → KK f args h M := fun _ _ _ _ h => .inr (.inr (.inr (.inl h)))
theorem kk_closeChunk : ∀ args h M, KClose Go.Proofs.Tryz.prog (KLap Go.Proofs.Tryz.prog) 86 86 args h M → KK 86 args h M := fun _ _ _ h => .inr (.inr (.inr (.inr (.inl h))))
theorem kk_closeSnap : ∀ args h M, KClose Go.Proofs.Tryz.prog (KLap Go.Proofs.Tryz.prog) 91 91 args h M → KK 91 args h M := fun _ _ _ h => .inr (.inr (.inr (.inr (.inr (.inl h)))))
theorem kk_closeExp : ∀ args h M, KClose Go.Proofs.Tryz.prog (KLap Go.Proofs.Tryz.prog) 95 95 args h M → KK 95 args h M := fun _ _ _ h => .inr (.inr (.inr (.inr (.inr (.inr h)))))
def ordLoc (a b : Loc) : Int := orI [cmpI a.vol b.vol, cmpI a.file b.file, cmpI a.off b.off, cmpI a.len b.len]
theorem compare_eq (a b : Int) : cmp_Compare_int a b = some (cmpI a b) := by
  simp only [cmp_Compare_int, cmp_isNaN_int, bd, cmpI]
  simp only [ne_eq, not_true_eq_false, decide_false, Bool.false_eq_true, if_false, decide_eq_true_eq]
  split <;> (try split) <;> rfl
theorem or_eq (xs : List Int) (h : xs.length ≤ 1073741824) : cmp_Or_int xs = some (orI xs) := by
  have key : ∀ (m i : Nat), i ≤ xs.length → xs.length - i < m → iter (cmp_Or_int.l2 xs) m (i : Int) = some (orI (xs.drop i)) := by
    intro m
    induction m with
    | zero => intro i _ h; omega
    | succ m ih =>
      intro i hi hm
      rw [iter]
      simp only [cmp_Or_int.l2, cmp_Or_int.k1, decide_eq_true_eq]
      by_cases hn : i < xs.length
      · have hw : wr ((i : Int) + 1) = ((i + 1 : Nat) : Int) := by
          have := wrap_nat (x := (i : Int) + 1) (n := i + 1) (by omega) (by omega)
          exact this
        have hix : ix xs (i : Int) = some xs[i] := by
          unfold ix
          simp [hn]
        rw [if_pos (by omega), hix]
        simp only [bd]
        rw [hw, List.drop_eq_getElem_cons hn]
        simp only [orI]
        by_cases h0 : xs[i] = 0
        · rw [if_neg (by simp [h0]), if_neg (by simp [h0])]
          exact ih (i + 1) (by omega) (by omega)
        · rw [if_pos (by simp [h0]), if_pos h0]
      · rw [if_neg (by omega), List.drop_eq_nil_of_le (by omega)]; rfl
  have := key 4611686018427387904 0 (Nat.zero_le _) (by omega)
  exact this
theorem order_eq (a b : Loc) : plan_order a b = some (ordLoc a b) := by
  simp only [plan_order, compare_eq, bd]
  rw [or_eq _ (by simp)]; rfl
theorem ordLoc_lt (a b : Loc) : ordLoc a b < 0 ↔ a.vol < b.vol ∨ a.vol = b.vol ∧ (a.file < b.file ∨ a.file = b.file ∧ (a.off < b.off ∨ a.off = b.off ∧ a.len < b.len)) := by
  simp only [ordLoc, orI, cmpI]
  repeat' split
  all_goals omega
theorem lt_loc (a b : Loc) : ltOf ordLoc a b = decide (ordLoc a b < 0) := rfl
theorem ordLoc_swo : SWO (ltOf ordLoc) where
  irrefl x := by simp only [lt_loc, decide_eq_false_iff_not, ordLoc_lt]; omega
  trans x y z h1 h2 := by simp only [lt_loc, decide_eq_true_eq, ordLoc_lt] at *; omega
  ntrans x y z h1 h2 := by simp only [lt_loc, decide_eq_false_iff_not, ordLoc_lt] at *; omega
theorem loc_ext {a b : Loc} (h1 : a.vol = b.vol) (h2 : a.file = b.file) (h3 : a.off = b.off) (h4 : a.len = b.len) : a = b := by cases a; cases b; simp_all
theorem ordLoc_tot (x y : Loc) (h1 : ltOf ordLoc x y = false) (h2 : ltOf ordLoc y x = false) : x = y := by
  simp only [lt_loc, decide_eq_false_iff_not, ordLoc_lt] at h1 h2
  exact loc_ext (by omega) (by omega) (by omega) (by omega)
theorem iorder_eq (a b : List UInt8) : manifest_order a b = some (cmpT a b) := rfl
theorem cmpT_swo : SWO (ltOf cmpT) := swo_of (f := fun x => x) fun _ _ => cmpT_lt _ _
theorem cmpT_tot (x y : List UInt8) (h1 : ltOf cmpT x y = false) (h2 : ltOf cmpT y x = false) : x = y := by
  rw [cmpT_lt] at h1 h2
  exact sLt_tri h1 h2
theorem sort_none99 (a : Option (Nat × Nat)) (k : Cap) (w : Hp) : Ret Go.Proofs.Tryz.prog KK 99 [.sl a 0 k, .f 100 []] w fun u w' => u = .tup [] ∧ w' = w :=
  XW.mono (evJ_sound 100 _ (.call (.tup []) w) (by kernel_rfl)) fun o e => ⟨_, _, e, rfl, rfl⟩
theorem sort_none168 (a : Option (Nat × Nat)) (k : Cap) (w : Hp) : Ret Go.Proofs.Tryz.prog KK 168 [.sl a 0 k, .f 169 []] w fun u w' => u = .tup [] ∧ w' = w :=
  XW.mono (evJ_sound 100 _ (.call (.tup []) w) (by kernel_rfl)) fun o e => ⟨_, _, e, rfl, rfl⟩
theorem sortLoc_ok {F : Frz} {w : Hp} {v : Val} {xs r : List Loc} (hS : St v.own w F F [.row Loc.t v xs] w) (H : sortM ordLoc xs = some r) : Ret Go.Proofs.Tryz.prog KK 99 [v, .f 100 []] w fun u w' => ∃ F', u = .tup [] ∧ St v.own w F F' [.row Loc.t v r] w' :=
  sort_flat (K0 := KNone) (fun _ _ _ h => .inl h) rfl ordLoc_swo ordLoc_tot Go.Proofs.Tryz.func100 rfl (by decide) sort_none99 (fun G h' cs x ds y hG hx hy => by
    obtain rfl := hx
    obtain rfl := hy
    exact (plan_order_ok hG (order_eq x y)).mono fun v w' ⟨F', e, _⟩ => e) hS H
theorem sortIds_ok {F : Frz} {w : Hp} {v : Val} {xs r : List (List UInt8)} (hS : St v.own w F F [.row tId v xs] w) (H : sortM cmpT xs = some r) : Ret Go.Proofs.Tryz.prog KK 168 [v, .f 169 []] w fun u w' => ∃ F', u = .tup [] ∧ St v.own w F F' [.row tId v r] w' :=
  sort_flat (K0 := KExt Go.Proofs.Tryz.prog) (fun _ _ _ h => .inr (.inl h)) rfl cmpT_swo cmpT_tot Go.Proofs.Tryz.func169 rfl (by decide) sort_none168 (fun G h' cs x ds y hG hx hy => by
    obtain ⟨rfl, hx⟩ := hx
    obtain ⟨rfl, hy⟩ := hy
    exact (manifest_order_ok hG hx hy (iorder_eq x y)).mono fun v w' ⟨F', e, _⟩ => e) hS H
set_option maxRecDepth 100000 in
theorem insKChunk {K : Tb} (hL : ∀ f args h M, KLap Go.Proofs.Tryz.prog f args h M → K f args h M) {h : Hp} {b n m i vb y : Nat} {ck : Cap} {c d : List Val} (hW : Wf h) (hb : b < h.next) (hg : h.get b = some (.cells 35 c)) (hv : h.get vb = some (.cells 35 d)) (hne : vb ≠ b) (hi : i < n) (hnm : n ≤ m) (hcm : c.length = m * 35) (hy : 0 < y) (hyd : y * 35 ≤ d.length) (hc1 : c.all Val.one = true) (hd1 : d.all Val.one = true) (hbig : n + y ≤ 2 ^ 30) (hvb : vb < h.next) :
    Ret Go.Proofs.Tryz.prog K 86 [.sl (some (b, 0)) n (.k m), .i .i64 (i : Int), .sl (some (vb, 0)) y ck] h (InsR 35 h b i n y c d) := by
  have hyd' : d.drop 0 = d := List.drop_zero
  have hge : h.get h.next = none := hW _ (Nat.le_refl _)
  refine Ret_of (args := [.sl (some (b, 0)) n (.k m), .i .i64 (i : Int), .sl (some (vb, 0)) y ck]) Go.Proofs.Tryz.func86 rfl (by decide) rfl ?_
  change C _ _ _ _ _ [(0, .sl (some (b, 0)) n (.k m)), (1, .i .i64 (i : Int)), (2, .sl (some (vb, 0)) y ck)] _
  refine C_seq ?_
  refine C_region rfl ?_
  refine W_c rfl rfl rfl rfl (fun _ => rfl) ?_
  refine W_nil ?_
  refine N_code ?_
  refine C_seq ?_
  refine C_region rfl ?_
  refine W_c rfl rfl rfl rfl (fun _ => rfl) ?_
  refine W_c rfl rfl rfl rfl (fun _ => rfl) ?_
  refine W_c rfl rfl rfl rfl (O_slK i n Go.Proofs.Tryz.underlying35 Ty.size60 rfl (.inr ⟨_, _, rfl, rfl⟩) (.inl ⟨rfl, rfl⟩) (Nat.le_of_lt hi) hnm (Nat.lt_of_lt_of_le hi hnm)) ?_
  refine W_nil ?_
  refine N_code ?_
  refine C_seq ?_
  refine C_region rfl ?_
  refine W_c rfl rfl rfl rfl (fun _ => rfl) ?_
  refine W_r rfl rfl rfl (O_len Go.Proofs.Tryz.underlying35 rfl (.inr ⟨_, _, rfl, fun q => by cases q⟩)) ?_
  refine W_c rfl rfl rfl rfl (fun _ => rfl) ?_
  refine W_nil ?_
  refine N_code ?_
  refine C_seq ?_
  refine C_seq ?_
  refine C_region rfl ?_
  refine W_c rfl rfl rfl rfl (fun _ => rfl) ?_
  refine W_r rfl rfl rfl (O_bin rfl rfl bI_eql) ?_
  refine W_nil ?_
  refine N_code ?_
  refine C_cond rfl (fun hc => absurd (of_decide_eq_true hc) (by omega)) (fun _ => ?_)
  refine C_skip ?_
  refine N_code ?_
  refine C_seq ?_
  refine C_region rfl ?_
  refine W_c rfl rfl rfl rfl (fun _ => rfl) ?_
  refine W_r rfl rfl rfl (O_len Go.Proofs.Tryz.underlying35 rfl (.inr ⟨_, _, rfl, fun q => by cases q⟩)) ?_
  refine W_c rfl rfl rfl rfl (fun _ => rfl) ?_
  refine W_nil ?_
  refine N_code ?_
  refine C_seq ?_
  refine C_seq ?_
  refine C_region rfl ?_
  refine W_c rfl rfl rfl rfl (fun _ => rfl) ?_
  refine W_c rfl rfl rfl rfl (fun _ => rfl) ?_
  refine W_r rfl rfl rfl (O_bin rfl rfl bI_eql) ?_
  refine W_nil ?_
  refine N_code ?_
  refine C_cond rfl (fun hc => absurd (of_decide_eq_true hc) (by omega)) (fun _ => ?_)
  refine C_skip ?_
  refine N_code ?_
  refine C_seq ?_
  refine C_seq ?_
  refine C_region rfl ?_
  refine W_c rfl rfl rfl rfl (fun _ => rfl) ?_
  refine W_c rfl rfl rfl rfl (fun _ => rfl) ?_
  refine W_r rfl rfl rfl (O_bin rfl rfl (bI_addN (a := n) (b := y) (by omega))) ?_
  refine W_c rfl rfl rfl rfl (fun _ => rfl) ?_
  refine W_c (v := .i .i64 (m : Int)) rfl rfl rfl rfl (fun h => by simp only [opAt, List.getD_cons_succ, List.getD_cons_zero, opL, evLL, List.mapM_cons, List.mapM_nil, evLO, look]; rfl) ?_
  refine W_r rfl rfl rfl (O_bin rfl rfl bI_gtr) ?_
  refine W_nil ?_
  refine N_code ?_
  refine C_cond rfl (fun hc => ?_) (fun hc => ?_)
  · have hroom : m < n + y := by have := of_decide_eq_true hc; omega
    refine C_seq ?_
    refine C_region rfl ?_
    refine W_c rfl rfl rfl rfl (fun _ => rfl) ?_
    refine W_c rfl rfl rfl rfl (fun _ => rfl) ?_
    refine W_c rfl rfl rfl rfl (O_slK 0 i Go.Proofs.Tryz.underlying35 Ty.size60 rfl (.inl ⟨rfl, rfl⟩) (.inr ⟨_, _, rfl, rfl⟩) (Nat.zero_le _) (by omega) (by omega)) ?_
    refine W_c rfl rfl rfl rfl (fun _ => rfl) ?_
    refine W_c rfl rfl rfl rfl (fun _ => rfl) ?_
    refine W_r rfl rfl rfl (O_bin rfl rfl (bI_addN (a := n) (b := y) (by omega))) ?_
    refine W_c rfl rfl rfl rfl (fun _ => rfl) ?_
    refine W_r rfl rfl rfl (O_bin rfl rfl (bI_subN (a := n + y) (b := i) (by omega) (by omega))) ?_
    refine W_x rfl rfl rfl (E_apK (N := n + y - i) (c := c) Go.Proofs.Tryz.underlying35 Ty.row60 (by kernel_rfl) rfl rfl (by omega) (by omega) (by omega) (by omega) hg (by rw [hcm]; simp only [Nat.zero_mul, Nat.add_zero, Nat.zero_add, Nat.sub_zero]; exact Nat.mul_le_mul_right _ (by omega)) hc1) ?_
    rintro _ _ ⟨rfl, zs, hzs, hz1, rfl⟩
    refine Nxt.now ?_
    refine W_c rfl rfl rfl rfl (fun _ => rfl) ?_
    refine W_nil ?_
    simp only [Nat.zero_mul, Nat.add_zero, Nat.sub_zero]
    have hin : i + (n + y - i) = n + y := by omega
    rw [hin]
    have g0 : ∀ B q, q < h.next → (h.new B).get q = h.get q := fun B q hq => by rw [Hp.get_new, if_neg (by omega)]
    have h1g : (h.new (.cells 35 ((c.drop 0).take (i * 35) ++ zs))).get h.next = some (.cells 35 ((c.drop 0).take (i * 35) ++ zs)) := by rw [Hp.get_new, if_pos rfl]
    have e1 : (i + y) * 35 = i * 35 + y * 35 := Nat.add_mul _ _ _
    have e2 : (n - i) * 35 = n * 35 - i * 35 := Nat.sub_mul _ _ _
    have e3 : (n + y) * 35 = n * 35 + y * 35 := Nat.add_mul _ _ _
    have e4 : i * 35 ≤ n * 35 := Nat.mul_le_mul_right _ (Nat.le_of_lt hi)
    have e5 : n * 35 ≤ m * 35 := Nat.mul_le_mul_right _ hnm
    have e6 : (n + y - i) * 35 = n * 35 + y * 35 - i * 35 := by rw [Nat.sub_mul, Nat.add_mul]
    have lD : ((d.drop 0).take (y * 35)).length = y * 35 := by rw [List.length_take, List.length_drop]; omega
    have lB : ((c.drop 0).take (i * 35) ++ zs).length = (n + y) * 35 := by rw [List.length_append, List.length_take, List.length_drop]; omega
    have o1 : ((c.drop 0).take (i * 35) ++ zs).all Val.one = true := by rw [List.all_append, part_one hc1, hz1]; rfl
    refine N_code ?_
    refine C_seq ?_
    refine C_region rfl ?_
    refine W_c rfl rfl rfl rfl (fun _ => rfl) ?_
    refine W_c rfl rfl rfl rfl (fun _ => rfl) ?_
    refine W_c rfl rfl rfl rfl (O_slO i (n + y) Go.Proofs.Tryz.underlying35 Ty.size60 rfl (.inr ⟨_, _, rfl, rfl⟩) (.inl ⟨rfl, rfl⟩) (by omega) (Nat.le_refl _) (by omega)) ?_
    refine W_c rfl rfl rfl rfl (fun _ => rfl) ?_
    refine W_x rfl rfl rfl (E_cp (m := y) Go.Proofs.Tryz.underlying35 Ty.size60 rfl rfl (by omega) h1g ((g0 _ _ hvb).trans hv) (by rw [Nat.zero_add]; exact hyd) (by rw [lB]; omega) hd1 hy) ?_
    rintro _ _ rfl
    refine Nxt.now ?_
    refine W_nil ?_
    rw [Nat.zero_add]
    have hl1 := putL_length (c := (c.drop 0).take (i * 35) ++ zs) (o := i * 35) (vs := (d.drop 0).take (y * 35)) (by rw [lD, lB]; omega)
    refine N_code ?_
    refine C_seq ?_
    refine C_regionD (G := fun _ _ => none) [0, 1, 2, 3, 4, 5, 6, 7, 8] rfl Ty.mixed (by kernel_rfl) (fun _ _ _ q => by cases q) ?_
    refine W_c rfl rfl rfl rfl (fun _ => rfl) ?_
    refine W_c rfl rfl rfl rfl (fun _ => rfl) ?_
    refine W_c rfl rfl rfl rfl (fun _ => rfl) ?_
    refine W_r rfl rfl rfl (O_bin rfl rfl (bI_addN (a := i) (b := y) (by omega))) ?_
    refine W_c rfl rfl rfl rfl (O_slO (i + y) (n + y) Go.Proofs.Tryz.underlying35 Ty.size60 rfl (.inr ⟨_, _, rfl, rfl⟩) (.inl ⟨rfl, rfl⟩) (by omega) (Nat.le_refl _) (by omega)) ?_
    refine W_c rfl rfl rfl rfl (fun _ => rfl) ?_
    refine W_c rfl rfl rfl rfl (fun _ => rfl) ?_
    refine W_c rfl rfl rfl rfl (O_slK i n Go.Proofs.Tryz.underlying35 Ty.size60 rfl (.inr ⟨_, _, rfl, rfl⟩) (.inl ⟨rfl, rfl⟩) (by omega) (by omega) (by omega)) ?_
    refine W_x rfl rfl rfl (E_cp (m := n - i) Go.Proofs.Tryz.underlying35 Ty.size60 rfl rfl (by omega) (by rw [Hp.get_set, if_pos rfl]) (by rw [Hp.get_set, if_neg (by omega)]; exact (g0 _ _ hb).trans hg) (by rw [Nat.zero_add]; omega) (by rw [hl1, lB, Nat.zero_add]; omega) hc1 (by omega)) ?_
    rintro _ _ rfl
    refine Nxt.frz (Frz.le.refl _) (fun _ _ _ q => by cases q) ?_
    refine W_nil ?_
    refine N_code ?_
    refine C_seq ?_
    refine C_region rfl ?_
    refine W_c rfl rfl rfl rfl (fun _ => rfl) ?_
    refine W_c rfl rfl rfl rfl (fun _ => rfl) ?_
    refine W_nil ?_
    refine N_code ?_
    refine C_ret rfl rfl ?_
    simp only [Nat.zero_add]
    obtain ⟨k1, k2⟩ := ins_new (z := 35) hi hnm hcm hyd hzs
    refine ⟨h.next, none, _, rfl, by rw [Hp.get_set, if_pos rfl], by rw [List.take_of_length_le (by rw [k2]; omega)]; exact k1, fun _ => by rw [k2]; exact Nat.le_refl _, fun q e => (by cases e), putL_one (putL_one o1 (part_one hd1)) (part_one hc1), Nat.lt_succ_self _, Nat.le_succ _, fun q hq => ?_, fun q hq _ => ?_, .inr (Nat.le_refl _)⟩
    · have hq' : h.next + 1 ≤ q := hq
      rw [Hp.get_set, if_neg (by omega), Hp.get_set, if_neg (by omega), Hp.get_new, if_neg (by omega)]
      exact hW _ (by omega)
    · rw [Hp.get_set, if_neg (by omega), Hp.get_set, if_neg (by omega)]
      exact g0 _ _ hq
  · have hroom : n + y ≤ m := by have := of_decide_eq_false hc; omega
    have e1 : (i + y) * 35 = i * 35 + y * 35 := Nat.add_mul _ _ _
    have e2 : (n - i) * 35 = n * 35 - i * 35 := Nat.sub_mul _ _ _
    have e3 : (n + y) * 35 = n * 35 + y * 35 := Nat.add_mul _ _ _
    have e4 : i * 35 ≤ n * 35 := Nat.mul_le_mul_right _ (Nat.le_of_lt hi)
    have e5 : (n + y) * 35 ≤ m * 35 := Nat.mul_le_mul_right _ hroom
    have e7 : n + y - (i + y) = n - i := by omega
    refine C_skip ?_
    refine N_code ?_
    refine C_seq ?_
    refine C_region rfl ?_
    refine W_c rfl rfl rfl rfl (fun _ => rfl) ?_
    refine W_c rfl rfl rfl rfl (fun _ => rfl) ?_
    refine W_c rfl rfl rfl rfl (fun _ => rfl) ?_
    refine W_r rfl rfl rfl (O_bin rfl rfl (bI_addN (a := n) (b := y) (by omega))) ?_
    refine W_c rfl rfl rfl rfl (O_slK 0 (n + y) Go.Proofs.Tryz.underlying35 Ty.size60 rfl (.inl ⟨rfl, rfl⟩) (.inr ⟨_, _, rfl, rfl⟩) (Nat.zero_le _) (by omega) (by omega)) ?_
    refine W_c rfl rfl rfl rfl (fun _ => rfl) ?_
    refine W_nil ?_
    simp only [Nat.zero_mul, Nat.add_zero, Nat.sub_zero]
    refine N_code ?_
    refine C_seq ?_
    refine C_seq ?_
    refine C_region rfl ?_
    refine W_c rfl rfl rfl rfl (fun _ => rfl) ?_
    refine W_c rfl rfl rfl rfl (fun _ => rfl) ?_
    refine W_c rfl rfl rfl rfl (fun _ => rfl) ?_
    refine W_c rfl rfl rfl rfl (fun _ => rfl) ?_
    refine W_r rfl rfl rfl (O_bin rfl rfl (bI_addN (a := i) (b := y) (by omega))) ?_
    refine W_c rfl rfl rfl rfl (O_slK (i + y) (n + y) Go.Proofs.Tryz.underlying35 Ty.size60 rfl (.inr ⟨_, _, rfl, rfl⟩) (.inl ⟨rfl, rfl⟩) (by omega) (by omega) (by omega)) ?_
    refine W_call (f := 136) (args := [.sl (some (vb, 0)) y ck, .sl (some (b, 0 + (i + y) * 35)) (n + y - (i + y)) (.k (m - (i + y)))]) rfl rfl rfl rfl (XW.known (M := fun v w' => v = .b false ∧ w' = h) (hL _ _ _ _ ⟨_, _, 4, _, _, _, _, _, _, _, _, _, _, _, _, _, _, Go.Proofs.Tryz.func136, rfl, rfl, rfl, by kernel_rfl, Go.Proofs.Tryz.underlying35, Ty.size60, rfl, hne, hv, by decide, by omega, hg, by omega, rfl, rfl⟩) fun v h' q => ⟨v, h', rfl, q⟩) ?_
    rintro _ w1 ⟨rfl, hw1⟩
    obtain rfl : h = w1 := hw1.symm
    refine Nxt.now ?_
    refine W_c rfl rfl rfl rfl (fun _ => rfl) ?_
    refine W_nil ?_
    refine N_code ?_
    refine C_cond_t rfl ?_
    refine C_seq ?_
    refine C_regionD (G := fun _ _ => none) [0, 1, 2, 3, 4, 5, 6, 7, 8] rfl Ty.mixed (by kernel_rfl) (fun _ _ _ q => by cases q) ?_
    refine W_c rfl rfl rfl rfl (fun _ => rfl) ?_
    refine W_c rfl rfl rfl rfl (fun _ => rfl) ?_
    refine W_c rfl rfl rfl rfl (fun _ => rfl) ?_
    refine W_r rfl rfl rfl (O_bin rfl rfl (bI_addN (a := i) (b := y) (by omega))) ?_
    refine W_c rfl rfl rfl rfl (O_slK (i + y) (n + y) Go.Proofs.Tryz.underlying35 Ty.size60 rfl (.inr ⟨_, _, rfl, rfl⟩) (.inl ⟨rfl, rfl⟩) (by omega) (by omega) (by omega)) ?_
    refine W_c rfl rfl rfl rfl (fun _ => rfl) ?_
    refine W_c rfl rfl rfl rfl (fun _ => rfl) ?_
    refine W_c rfl rfl rfl rfl (O_slK i (n + y) Go.Proofs.Tryz.underlying35 Ty.size60 rfl (.inr ⟨_, _, rfl, rfl⟩) (.inl ⟨rfl, rfl⟩) (by omega) (by omega) (by omega)) ?_
    refine W_x rfl rfl rfl (E_cp (m := n - i) Go.Proofs.Tryz.underlying35 Ty.size60 rfl rfl (by omega) hg hg (by rw [Nat.zero_add]; omega) (by rw [Nat.zero_add]; omega) hc1 (by omega)) ?_
    rintro _ _ rfl
    refine Nxt.frz (Frz.le.refl _) (fun _ _ _ q => by cases q) ?_
    refine W_nil ?_
    simp only [Nat.zero_add]
    have lA : ((c.drop (i * 35)).take ((n - i) * 35)).length = (n - i) * 35 := by rw [List.length_take, List.length_drop]; omega
    have hl1 := putL_length (c := c) (o := (i + y) * 35) (vs := (c.drop (i * 35)).take ((n - i) * 35)) (by rw [lA]; omega)
    refine N_code ?_
    refine C_seq ?_
    refine C_region rfl ?_
    refine W_c rfl rfl rfl rfl (fun _ => rfl) ?_
    refine W_c rfl rfl rfl rfl (fun _ => rfl) ?_
    refine W_c rfl rfl rfl rfl (O_slK i (n + y) Go.Proofs.Tryz.underlying35 Ty.size60 rfl (.inr ⟨_, _, rfl, rfl⟩) (.inl ⟨rfl, rfl⟩) (by omega) (by omega) (by omega)) ?_
    refine W_c rfl rfl rfl rfl (fun _ => rfl) ?_
    refine W_x rfl rfl rfl (E_cp (m := y) Go.Proofs.Tryz.underlying35 Ty.size60 rfl rfl (by omega) (by rw [Hp.get_set, if_pos rfl]) (by rw [Hp.get_set, if_neg hne]; exact hv) (by rw [Nat.zero_add]; exact hyd) (by rw [hl1, Nat.zero_add]; omega) hd1 hy) ?_
    rintro _ _ rfl
    refine Nxt.now ?_
    refine W_nil ?_
    refine N_code ?_
    refine C_seq ?_
    refine C_region rfl ?_
    refine W_c rfl rfl rfl rfl (fun _ => rfl) ?_
    refine W_c rfl rfl rfl rfl (fun _ => rfl) ?_
    refine W_nil ?_
    refine N_code ?_
    refine C_ret rfl rfl ?_
    simp only [Nat.zero_add]
    obtain ⟨k1, k2⟩ := ins_in (z := 35) hi hroom hcm hyd
    refine ⟨b, some m, _, rfl, by rw [Hp.get_set, if_pos rfl], k1, fun e => (by cases e), fun q e => (by obtain rfl := Option.some.inj e; exact ⟨k2, hroom⟩), putL_one (putL_one hc1 (part_one hc1)) (part_one hd1), hb, Nat.le_refl _, fun q hq => ?_, fun q hq hqb => ?_, .inl rfl⟩
    · have hq' : h.next ≤ q := hq
      rw [Hp.get_set, if_neg (by omega), Hp.get_set, if_neg (by omega)]
      exact hW _ hq'
    · rw [Hp.get_set, if_neg hqb, Hp.get_set, if_neg hqb]
set_option maxRecDepth 100000 in
theorem insEChunk {K : Tb} {t : To Chunk} {X : List Nat} {h0 h : Hp} {F0 F : Frz} {L : List Ob} {bs bs2 : List Nat} {v v2 : Val} {xs ys zs : List Chunk} (hts : t.size = 35) (hS : St X h0 F0 F (.dp t bs2 v2 ys :: .dp t bs v xs :: L) h) (hy : 0 < ys.length) (hz : app xs ys = some zs) :
    Ret Go.Proofs.Tryz.prog K 86 [v, .i .i64 (xs.length : Int), v2] h (fun u h' => ∃ bs', St X h0 F0 F (.dp t bs' u zs :: L) h') := by
  have hfew := (app_some hz).1
  refine Ret_of (args := [v, .i .i64 (xs.length : Int), v2]) Go.Proofs.Tryz.func86 rfl (by decide) rfl ?_
  change C _ _ _ _ _ [(0, v), (1, .i .i64 (xs.length : Int)), (2, v2)] _
  refine C_seq ?_
  refine C_region rfl ?_
  refine W_c rfl rfl rfl rfl (fun _ => rfl) ?_
  refine W_nil ?_
  refine N_code ?_
  refine C_seq ?_
  refine C_region rfl ?_
  refine W_c rfl rfl rfl rfl (fun _ => rfl) ?_
  refine W_c rfl rfl rfl rfl (fun _ => rfl) ?_
  refine W_cutD (t := t) 1 (xs.length : Int) (xs.length : Int) rfl rfl rfl rfl Go.Proofs.Tryz.underlying35 (by rw [hts]; exact Ty.size60) rfl (.inr ⟨_, _, rfl, rfl⟩) (.inl ⟨rfl, rfl⟩) hS rfl (by omega) (by omega) (by omega) ?_
  intro v'
  refine W_nil ?_
  refine N_code ?_
  refine C_seq ?_
  refine C_region rfl ?_
  refine W_c rfl rfl rfl rfl (fun _ => rfl) ?_
  refine W_r rfl rfl rfl (O_len Go.Proofs.Tryz.underlying35 rfl (hS.dpLn (k := 0) rfl)) ?_
  refine W_c rfl rfl rfl rfl (fun _ => rfl) ?_
  refine W_nil ?_
  refine N_code ?_
  refine C_seq ?_
  refine C_seq ?_
  refine C_region rfl ?_
  refine W_c rfl rfl rfl rfl (fun _ => rfl) ?_
  refine W_r rfl rfl rfl (O_bin rfl rfl bI_eql) ?_
  refine W_nil ?_
  refine N_code ?_
  refine C_cond rfl (fun hc => absurd (of_decide_eq_true hc) (by omega)) (fun _ => ?_)
  refine C_skip ?_
  refine N_code ?_
  refine C_seq ?_
  refine C_region rfl ?_
  refine W_c rfl rfl rfl rfl (fun _ => rfl) ?_
  refine W_r rfl rfl rfl (O_len Go.Proofs.Tryz.underlying35 rfl (hS.dpLn (k := 1) rfl)) ?_
  refine W_c rfl rfl rfl rfl (fun _ => rfl) ?_
  refine W_nil ?_
  refine N_code ?_
  refine C_seq ?_
  refine C_seq ?_
  refine C_region rfl ?_
  refine W_c rfl rfl rfl rfl (fun _ => rfl) ?_
  refine W_c rfl rfl rfl rfl (fun _ => rfl) ?_
  refine W_r rfl rfl rfl (O_bin rfl rfl bI_eql) ?_
  refine W_nil ?_
  refine N_code ?_
  refine C_cond rfl (fun _ => ?_) (fun hc => absurd rfl (of_decide_eq_false hc))
  refine C_seq ?_
  refine C_region rfl ?_
  refine W_c rfl rfl rfl rfl (fun _ => rfl) ?_
  refine W_c rfl rfl rfl rfl (fun _ => rfl) ?_
  refine W_x rfl rfl rfl (E_appD (t := t) Go.Proofs.Tryz.underlying35 (by rw [hts]; exact Ty.row60) (by kernel_rfl) rfl rfl hS hz) ?_
  rintro u w' ⟨bs', hT⟩
  refine Nxt.now ?_
  refine W_c rfl rfl rfl rfl (fun _ => rfl) ?_
  refine W_nil ?_
  refine N_code ?_
  refine C_ret rfl rfl ?_
  exact ⟨bs', hT⟩
theorem insChunk_ok {F : Frz} {w : Hp} {X : List Nat} {bs bs2 : List Nat} {v v2 : Val} {i : Int} {xs ys r : List Chunk} (hS : St X w F F [.dp Chunk.o bs v xs, .dp Chunk.o bs2 v2 ys] w) (H : insD xs i ys = some r) :
    Ret Go.Proofs.Tryz.prog KK 86 [v, .i .i64 i, v2] w fun u w' => ∃ bs', St X w F F [.dp Chunk.o bs' u r] w' :=
  ins_dp (z := 35) rfl (by decide) (fun hS hy hz => insEChunk rfl hS hy hz) (insKChunk kk_lap) (insKChunk fun _ _ _ _ q => q) (kk_closeChunk) hS H
set_option maxRecDepth 100000 in
theorem insKSnap {K : Tb} (hL : ∀ f args h M, KLap Go.Proofs.Tryz.prog f args h M → K f args h M) {h : Hp} {b n m i vb y : Nat} {ck : Cap} {c d : List Val} (hW : Wf h) (hb : b < h.next) (hg : h.get b = some (.cells 4 c)) (hv : h.get vb = some (.cells 4 d)) (hne : vb ≠ b) (hi : i < n) (hnm : n ≤ m) (hcm : c.length = m * 4) (hy : 0 < y) (hyd : y * 4 ≤ d.length) (hc1 : c.all Val.one = true) (hd1 : d.all Val.one = true) (hbig : n + y ≤ 2 ^ 30) (hvb : vb < h.next) :
    Ret Go.Proofs.Tryz.prog K 91 [.sl (some (b, 0)) n (.k m), .i .i64 (i : Int), .sl (some (vb, 0)) y ck] h (InsR 4 h b i n y c d) := by
  have hyd' : d.drop 0 = d := List.drop_zero
  have hge : h.get h.next = none := hW _ (Nat.le_refl _)
  refine Ret_of (args := [.sl (some (b, 0)) n (.k m), .i .i64 (i : Int), .sl (some (vb, 0)) y ck]) Go.Proofs.Tryz.func91 rfl (by decide) rfl ?_
  change C _ _ _ _ _ [(0, .sl (some (b, 0)) n (.k m)), (1, .i .i64 (i : Int)), (2, .sl (some (vb, 0)) y ck)] _
  refine C_seq ?_
  refine C_region rfl ?_
  refine W_c rfl rfl rfl rfl (fun _ => rfl) ?_
  refine W_nil ?_
  refine N_code ?_
  refine C_seq ?_
  refine C_region rfl ?_
  refine W_c rfl rfl rfl rfl (fun _ => rfl) ?_
  refine W_c rfl rfl rfl rfl (fun _ => rfl) ?_
  refine W_c rfl rfl rfl rfl (O_slK i n Go.Proofs.Tryz.underlying34 Ty.size46 rfl (.inr ⟨_, _, rfl, rfl⟩) (.inl ⟨rfl, rfl⟩) (Nat.le_of_lt hi) hnm (Nat.lt_of_lt_of_le hi hnm)) ?_
  refine W_nil ?_
  refine N_code ?_
  refine C_seq ?_
  refine C_region rfl ?_
  refine W_c rfl rfl rfl rfl (fun _ => rfl) ?_
  refine W_r rfl rfl rfl (O_len Go.Proofs.Tryz.underlying34 rfl (.inr ⟨_, _, rfl, fun q => by cases q⟩)) ?_
  refine W_c rfl rfl rfl rfl (fun _ => rfl) ?_
  refine W_nil ?_
  refine N_code ?_
  refine C_seq ?_
  refine C_seq ?_
  refine C_region rfl ?_
  refine W_c rfl rfl rfl rfl (fun _ => rfl) ?_
  refine W_r rfl rfl rfl (O_bin rfl rfl bI_eql) ?_
  refine W_nil ?_
  refine N_code ?_
  refine C_cond rfl (fun hc => absurd (of_decide_eq_true hc) (by omega)) (fun _ => ?_)
  refine C_skip ?_
  refine N_code ?_
  refine C_seq ?_
  refine C_region rfl ?_
  refine W_c rfl rfl rfl rfl (fun _ => rfl) ?_
  refine W_r rfl rfl rfl (O_len Go.Proofs.Tryz.underlying34 rfl (.inr ⟨_, _, rfl, fun q => by cases q⟩)) ?_
  refine W_c rfl rfl rfl rfl (fun _ => rfl) ?_
  refine W_nil ?_
  refine N_code ?_
  refine C_seq ?_
  refine C_seq ?_
  refine C_region rfl ?_
  refine W_c rfl rfl rfl rfl (fun _ => rfl) ?_
  refine W_c rfl rfl rfl rfl (fun _ => rfl) ?_
  refine W_r rfl rfl rfl (O_bin rfl rfl bI_eql) ?_
  refine W_nil ?_
  refine N_code ?_
  refine C_cond rfl (fun hc => absurd (of_decide_eq_true hc) (by omega)) (fun _ => ?_)
  refine C_skip ?_
  refine N_code ?_
  refine C_seq ?_
  refine C_seq ?_
  refine C_region rfl ?_
  refine W_c rfl rfl rfl rfl (fun _ => rfl) ?_
  refine W_c rfl rfl rfl rfl (fun _ => rfl) ?_
  refine W_r rfl rfl rfl (O_bin rfl rfl (bI_addN (a := n) (b := y) (by omega))) ?_
  refine W_c rfl rfl rfl rfl (fun _ => rfl) ?_
  refine W_c (v := .i .i64 (m : Int)) rfl rfl rfl rfl (fun h => by simp only [opAt, List.getD_cons_succ, List.getD_cons_zero, opL, evLL, List.mapM_cons, List.mapM_nil, evLO, look]; rfl) ?_
  refine W_r rfl rfl rfl (O_bin rfl rfl bI_gtr) ?_
  refine W_nil ?_
  refine N_code ?_
  refine C_cond rfl (fun hc => ?_) (fun hc => ?_)
  · have hroom : m < n + y := by have := of_decide_eq_true hc; omega
    refine C_seq ?_
    refine C_region rfl ?_
    refine W_c rfl rfl rfl rfl (fun _ => rfl) ?_
    refine W_c rfl rfl rfl rfl (fun _ => rfl) ?_
    refine W_c rfl rfl rfl rfl (O_slK 0 i Go.Proofs.Tryz.underlying34 Ty.size46 rfl (.inl ⟨rfl, rfl⟩) (.inr ⟨_, _, rfl, rfl⟩) (Nat.zero_le _) (by omega) (by omega)) ?_
    refine W_c rfl rfl rfl rfl (fun _ => rfl) ?_
    refine W_c rfl rfl rfl rfl (fun _ => rfl) ?_
    refine W_r rfl rfl rfl (O_bin rfl rfl (bI_addN (a := n) (b := y) (by omega))) ?_
    refine W_c rfl rfl rfl rfl (fun _ => rfl) ?_
    refine W_r rfl rfl rfl (O_bin rfl rfl (bI_subN (a := n + y) (b := i) (by omega) (by omega))) ?_
    refine W_x rfl rfl rfl (E_apK (N := n + y - i) (c := c) Go.Proofs.Tryz.underlying34 Ty.row46 (by kernel_rfl) rfl rfl (by omega) (by omega) (by omega) (by omega) hg (by rw [hcm]; simp only [Nat.zero_mul, Nat.add_zero, Nat.zero_add, Nat.sub_zero]; exact Nat.mul_le_mul_right _ (by omega)) hc1) ?_
    rintro _ _ ⟨rfl, zs, hzs, hz1, rfl⟩
    refine Nxt.now ?_
    refine W_c rfl rfl rfl rfl (fun _ => rfl) ?_
    refine W_nil ?_
    simp only [Nat.zero_mul, Nat.add_zero, Nat.sub_zero]
    have hin : i + (n + y - i) = n + y := by omega
    rw [hin]
    have g0 : ∀ B q, q < h.next → (h.new B).get q = h.get q := fun B q hq => by rw [Hp.get_new, if_neg (by omega)]
    have h1g : (h.new (.cells 4 ((c.drop 0).take (i * 4) ++ zs))).get h.next = some (.cells 4 ((c.drop 0).take (i * 4) ++ zs)) := by rw [Hp.get_new, if_pos rfl]
    have e1 : (i + y) * 4 = i * 4 + y * 4 := Nat.add_mul _ _ _
    have e2 : (n - i) * 4 = n * 4 - i * 4 := Nat.sub_mul _ _ _
    have e3 : (n + y) * 4 = n * 4 + y * 4 := Nat.add_mul _ _ _
    have e4 : i * 4 ≤ n * 4 := Nat.mul_le_mul_right _ (Nat.le_of_lt hi)
    have e5 : n * 4 ≤ m * 4 := Nat.mul_le_mul_right _ hnm
    have e6 : (n + y - i) * 4 = n * 4 + y * 4 - i * 4 := by rw [Nat.sub_mul, Nat.add_mul]
    have lD : ((d.drop 0).take (y * 4)).length = y * 4 := by rw [List.length_take, List.length_drop]; omega
    have lB : ((c.drop 0).take (i * 4) ++ zs).length = (n + y) * 4 := by rw [List.length_append, List.length_take, List.length_drop]; omega
    have o1 : ((c.drop 0).take (i * 4) ++ zs).all Val.one = true := by rw [List.all_append, part_one hc1, hz1]; rfl
    refine N_code ?_
    refine C_seq ?_
    refine C_region rfl ?_
    refine W_c rfl rfl rfl rfl (fun _ => rfl) ?_
    refine W_c rfl rfl rfl rfl (fun _ => rfl) ?_
    refine W_c rfl rfl rfl rfl (O_slO i (n + y) Go.Proofs.Tryz.underlying34 Ty.size46 rfl (.inr ⟨_, _, rfl, rfl⟩) (.inl ⟨rfl, rfl⟩) (by omega) (Nat.le_refl _) (by omega)) ?_
    refine W_c rfl rfl rfl rfl (fun _ => rfl) ?_
    refine W_x rfl rfl rfl (E_cp (m := y) Go.Proofs.Tryz.underlying34 Ty.size46 rfl rfl (by omega) h1g ((g0 _ _ hvb).trans hv) (by rw [Nat.zero_add]; exact hyd) (by rw [lB]; omega) hd1 hy) ?_
    rintro _ _ rfl
    refine Nxt.now ?_
    refine W_nil ?_
    rw [Nat.zero_add]
    have hl1 := putL_length (c := (c.drop 0).take (i * 4) ++ zs) (o := i * 4) (vs := (d.drop 0).take (y * 4)) (by rw [lD, lB]; omega)
    refine N_code ?_
    refine C_seq ?_
    refine C_regionD (G := fun _ _ => none) [0, 1, 2, 3, 4, 5, 6, 7, 8] rfl Ty.mixed (by kernel_rfl) (fun _ _ _ q => by cases q) ?_
    refine W_c rfl rfl rfl rfl (fun _ => rfl) ?_
    refine W_c rfl rfl rfl rfl (fun _ => rfl) ?_
    refine W_c rfl rfl rfl rfl (fun _ => rfl) ?_
    refine W_r rfl rfl rfl (O_bin rfl rfl (bI_addN (a := i) (b := y) (by omega))) ?_
    refine W_c rfl rfl rfl rfl (O_slO (i + y) (n + y) Go.Proofs.Tryz.underlying34 Ty.size46 rfl (.inr ⟨_, _, rfl, rfl⟩) (.inl ⟨rfl, rfl⟩) (by omega) (Nat.le_refl _) (by omega)) ?_
    refine W_c rfl rfl rfl rfl (fun _ => rfl) ?_
    refine W_c rfl rfl rfl rfl (fun _ => rfl) ?_
    refine W_c rfl rfl rfl rfl (O_slK i n Go.Proofs.Tryz.underlying34 Ty.size46 rfl (.inr ⟨_, _, rfl, rfl⟩) (.inl ⟨rfl, rfl⟩) (by omega) (by omega) (by omega)) ?_
    refine W_x rfl rfl rfl (E_cp (m := n - i) Go.Proofs.Tryz.underlying34 Ty.size46 rfl rfl (by omega) (by rw [Hp.get_set, if_pos rfl]) (by rw [Hp.get_set, if_neg (by omega)]; exact (g0 _ _ hb).trans hg) (by rw [Nat.zero_add]; omega) (by rw [hl1, lB, Nat.zero_add]; omega) hc1 (by omega)) ?_
    rintro _ _ rfl
    refine Nxt.frz (Frz.le.refl _) (fun _ _ _ q => by cases q) ?_
    refine W_nil ?_
    refine N_code ?_
    refine C_seq ?_
    refine C_region rfl ?_
    refine W_c rfl rfl rfl rfl (fun _ => rfl) ?_
    refine W_c rfl rfl rfl rfl (fun _ => rfl) ?_
    refine W_nil ?_
    refine N_code ?_
    refine C_ret rfl rfl ?_
    simp only [Nat.zero_add]
    obtain ⟨k1, k2⟩ := ins_new (z := 4) hi hnm hcm hyd hzs
    refine ⟨h.next, none, _, rfl, by rw [Hp.get_set, if_pos rfl], by rw [List.take_of_length_le (by rw [k2]; omega)]; exact k1, fun _ => by rw [k2]; exact Nat.le_refl _, fun q e => (by cases e), putL_one (putL_one o1 (part_one hd1)) (part_one hc1), Nat.lt_succ_self _, Nat.le_succ _, fun q hq => ?_, fun q hq _ => ?_, .inr (Nat.le_refl _)⟩
    · have hq' : h.next + 1 ≤ q := hq
      rw [Hp.get_set, if_neg (by omega), Hp.get_set, if_neg (by omega), Hp.get_new, if_neg (by omega)]
      exact hW _ (by omega)
    · rw [Hp.get_set, if_neg (by omega), Hp.get_set, if_neg (by omega)]
      exact g0 _ _ hq
  · have hroom : n + y ≤ m := by have := of_decide_eq_false hc; omega
    have e1 : (i + y) * 4 = i * 4 + y * 4 := Nat.add_mul _ _ _
    have e2 : (n - i) * 4 = n * 4 - i * 4 := Nat.sub_mul _ _ _
    have e3 : (n + y) * 4 = n * 4 + y * 4 := Nat.add_mul _ _ _
    have e4 : i * 4 ≤ n * 4 := Nat.mul_le_mul_right _ (Nat.le_of_lt hi)
    have e5 : (n + y) * 4 ≤ m * 4 := Nat.mul_le_mul_right _ hroom
    have e7 : n + y - (i + y) = n - i := by omega
    refine C_skip ?_
    refine N_code ?_
    refine C_seq ?_
    refine C_region rfl ?_
    refine W_c rfl rfl rfl rfl (fun _ => rfl) ?_
    refine W_c rfl rfl rfl rfl (fun _ => rfl) ?_
    refine W_c rfl rfl rfl rfl (fun _ => rfl) ?_
    refine W_r rfl rfl rfl (O_bin rfl rfl (bI_addN (a := n) (b := y) (by omega))) ?_
    refine W_c rfl rfl rfl rfl (O_slK 0 (n + y) Go.Proofs.Tryz.underlying34 Ty.size46 rfl (.inl ⟨rfl, rfl⟩) (.inr ⟨_, _, rfl, rfl⟩) (Nat.zero_le _) (by omega) (by omega)) ?_
    refine W_c rfl rfl rfl rfl (fun _ => rfl) ?_
    refine W_nil ?_
    simp only [Nat.zero_mul, Nat.add_zero, Nat.sub_zero]
    refine N_code ?_
    refine C_seq ?_
    refine C_seq ?_
    refine C_region rfl ?_
    refine W_c rfl rfl rfl rfl (fun _ => rfl) ?_
    refine W_c rfl rfl rfl rfl (fun _ => rfl) ?_
    refine W_c rfl rfl rfl rfl (fun _ => rfl) ?_
    refine W_c rfl rfl rfl rfl (fun _ => rfl) ?_
    refine W_r rfl rfl rfl (O_bin rfl rfl (bI_addN (a := i) (b := y) (by omega))) ?_
    refine W_c rfl rfl rfl rfl (O_slK (i + y) (n + y) Go.Proofs.Tryz.underlying34 Ty.size46 rfl (.inr ⟨_, _, rfl, rfl⟩) (.inl ⟨rfl, rfl⟩) (by omega) (by omega) (by omega)) ?_
    refine W_call (f := 141) (args := [.sl (some (vb, 0)) y ck, .sl (some (b, 0 + (i + y) * 4)) (n + y - (i + y)) (.k (m - (i + y)))]) rfl rfl rfl rfl (XW.known (M := fun v w' => v = .b false ∧ w' = h) (hL _ _ _ _ ⟨_, _, 4, _, _, _, _, _, _, _, _, _, _, _, _, _, _, Go.Proofs.Tryz.func141, rfl, rfl, rfl, by kernel_rfl, Go.Proofs.Tryz.underlying34, Ty.size46, rfl, hne, hv, by decide, by omega, hg, by omega, rfl, rfl⟩) fun v h' q => ⟨v, h', rfl, q⟩) ?_
    rintro _ w1 ⟨rfl, hw1⟩
    obtain rfl : h = w1 := hw1.symm
    refine Nxt.now ?_
    refine W_c rfl rfl rfl rfl (fun _ => rfl) ?_
    refine W_nil ?_
    refine N_code ?_
    refine C_cond_t rfl ?_
    refine C_seq ?_
    refine C_regionD (G := fun _ _ => none) [0, 1, 2, 3, 4, 5, 6, 7, 8] rfl Ty.mixed (by kernel_rfl) (fun _ _ _ q => by cases q) ?_
    refine W_c rfl rfl rfl rfl (fun _ => rfl) ?_
    refine W_c rfl rfl rfl rfl (fun _ => rfl) ?_
    refine W_c rfl rfl rfl rfl (fun _ => rfl) ?_
    refine W_r rfl rfl rfl (O_bin rfl rfl (bI_addN (a := i) (b := y) (by omega))) ?_
    refine W_c rfl rfl rfl rfl (O_slK (i + y) (n + y) Go.Proofs.Tryz.underlying34 Ty.size46 rfl (.inr ⟨_, _, rfl, rfl⟩) (.inl ⟨rfl, rfl⟩) (by omega) (by omega) (by omega)) ?_
    refine W_c rfl rfl rfl rfl (fun _ => rfl) ?_
    refine W_c rfl rfl rfl rfl (fun _ => rfl) ?_
    refine W_c rfl rfl rfl rfl (O_slK i (n + y) Go.Proofs.Tryz.underlying34 Ty.size46 rfl (.inr ⟨_, _, rfl, rfl⟩) (.inl ⟨rfl, rfl⟩) (by omega) (by omega) (by omega)) ?_
    refine W_x rfl rfl rfl (E_cp (m := n - i) Go.Proofs.Tryz.underlying34 Ty.size46 rfl rfl (by omega) hg hg (by rw [Nat.zero_add]; omega) (by rw [Nat.zero_add]; omega) hc1 (by omega)) ?_
    rintro _ _ rfl
    refine Nxt.frz (Frz.le.refl _) (fun _ _ _ q => by cases q) ?_
    refine W_nil ?_
    simp only [Nat.zero_add]
    have lA : ((c.drop (i * 4)).take ((n - i) * 4)).length = (n - i) * 4 := by rw [List.length_take, List.length_drop]; omega
    have hl1 := putL_length (c := c) (o := (i + y) * 4) (vs := (c.drop (i * 4)).take ((n - i) * 4)) (by rw [lA]; omega)
    refine N_code ?_
    refine C_seq ?_
    refine C_region rfl ?_
    refine W_c rfl rfl rfl rfl (fun _ => rfl) ?_
    refine W_c rfl rfl rfl rfl (fun _ => rfl) ?_
    refine W_c rfl rfl rfl rfl (O_slK i (n + y) Go.Proofs.Tryz.underlying34 Ty.size46 rfl (.inr ⟨_, _, rfl, rfl⟩) (.inl ⟨rfl, rfl⟩) (by omega) (by omega) (by omega)) ?_
    refine W_c rfl rfl rfl rfl (fun _ => rfl) ?_
    refine W_x rfl rfl rfl (E_cp (m := y) Go.Proofs.Tryz.underlying34 Ty.size46 rfl rfl (by omega) (by rw [Hp.get_set, if_pos rfl]) (by rw [Hp.get_set, if_neg hne]; exact hv) (by rw [Nat.zero_add]; exact hyd) (by rw [hl1, Nat.zero_add]; omega) hd1 hy) ?_
    rintro _ _ rfl
    refine Nxt.now ?_
    refine W_nil ?_
    refine N_code ?_
    refine C_seq ?_
    refine C_region rfl ?_
    refine W_c rfl rfl rfl rfl (fun _ => rfl) ?_
    refine W_c rfl rfl rfl rfl (fun _ => rfl) ?_
    refine W_nil ?_
    refine N_code ?_
    refine C_ret rfl rfl ?_
    simp only [Nat.zero_add]
    obtain ⟨k1, k2⟩ := ins_in (z := 4) hi hroom hcm hyd
    refine ⟨b, some m, _, rfl, by rw [Hp.get_set, if_pos rfl], k1, fun e => (by cases e), fun q e => (by obtain rfl := Option.some.inj e; exact ⟨k2, hroom⟩), putL_one (putL_one hc1 (part_one hc1)) (part_one hd1), hb, Nat.le_refl _, fun q hq => ?_, fun q hq hqb => ?_, .inl rfl⟩
    · have hq' : h.next ≤ q := hq
      rw [Hp.get_set, if_neg (by omega), Hp.get_set, if_neg (by omega)]
      exact hW _ hq'
    · rw [Hp.get_set, if_neg hqb, Hp.get_set, if_neg hqb]
set_option maxRecDepth 100000 in
theorem insESnap {K : Tb} {t : To Snap} {X : List Nat} {h0 h : Hp} {F0 F : Frz} {L : List Ob} {bs bs2 : List Nat} {v v2 : Val} {xs ys zs : List Snap} (hts : t.size = 4) (hS : St X h0 F0 F (.dp t bs2 v2 ys :: .dp t bs v xs :: L) h) (hy : 0 < ys.length) (hz : app xs ys = some zs) :
    Ret Go.Proofs.Tryz.prog K 91 [v, .i .i64 (xs.length : Int), v2] h (fun u h' => ∃ bs', St X h0 F0 F (.dp t bs' u zs :: L) h') := by
  have hfew := (app_some hz).1
  refine Ret_of (args := [v, .i .i64 (xs.length : Int), v2]) Go.Proofs.Tryz.func91 rfl (by decide) rfl ?_
  change C _ _ _ _ _ [(0, v), (1, .i .i64 (xs.length : Int)), (2, v2)] _
  refine C_seq ?_
  refine C_region rfl ?_
  refine W_c rfl rfl rfl rfl (fun _ => rfl) ?_
  refine W_nil ?_
  refine N_code ?_
  refine C_seq ?_
  refine C_region rfl ?_
  refine W_c rfl rfl rfl rfl (fun _ => rfl) ?_
  refine W_c rfl rfl rfl rfl (fun _ => rfl) ?_
  refine W_cutD (t := t) 1 (xs.length : Int) (xs.length : Int) rfl rfl rfl rfl Go.Proofs.Tryz.underlying34 (by rw [hts]; exact Ty.size46) rfl (.inr ⟨_, _, rfl, rfl⟩) (.inl ⟨rfl, rfl⟩) hS rfl (by omega) (by omega) (by omega) ?_
  intro v'
  refine W_nil ?_
  refine N_code ?_
  refine C_seq ?_
  refine C_region rfl ?_
  refine W_c rfl rfl rfl rfl (fun _ => rfl) ?_
  refine W_r rfl rfl rfl (O_len Go.Proofs.Tryz.underlying34 rfl (hS.dpLn (k := 0) rfl)) ?_
  refine W_c rfl rfl rfl rfl (fun _ => rfl) ?_
  refine W_nil ?_
  refine N_code ?_
  refine C_seq ?_
  refine C_seq ?_
  refine C_region rfl ?_
  refine W_c rfl rfl rfl rfl (fun _ => rfl) ?_
  refine W_r rfl rfl rfl (O_bin rfl rfl bI_eql) ?_
  refine W_nil ?_
  refine N_code ?_
  refine C_cond rfl (fun hc => absurd (of_decide_eq_true hc) (by omega)) (fun _ => ?_)
  refine C_skip ?_
  refine N_code ?_
  refine C_seq ?_
  refine C_region rfl ?_
  refine W_c rfl rfl rfl rfl (fun _ => rfl) ?_
  refine W_r rfl rfl rfl (O_len Go.Proofs.Tryz.underlying34 rfl (hS.dpLn (k := 1) rfl)) ?_
  refine W_c rfl rfl rfl rfl (fun _ => rfl) ?_
  refine W_nil ?_
  refine N_code ?_
  refine C_seq ?_
  refine C_seq ?_
  refine C_region rfl ?_
  refine W_c rfl rfl rfl rfl (fun _ => rfl) ?_
  refine W_c rfl rfl rfl rfl (fun _ => rfl) ?_
  refine W_r rfl rfl rfl (O_bin rfl rfl bI_eql) ?_
  refine W_nil ?_
  refine N_code ?_
  refine C_cond rfl (fun _ => ?_) (fun hc => absurd rfl (of_decide_eq_false hc))
  refine C_seq ?_
  refine C_region rfl ?_
  refine W_c rfl rfl rfl rfl (fun _ => rfl) ?_
  refine W_c rfl rfl rfl rfl (fun _ => rfl) ?_
  refine W_x rfl rfl rfl (E_appD (t := t) Go.Proofs.Tryz.underlying34 (by rw [hts]; exact Ty.row46) (by kernel_rfl) rfl rfl hS hz) ?_
  rintro u w' ⟨bs', hT⟩
  refine Nxt.now ?_
  refine W_c rfl rfl rfl rfl (fun _ => rfl) ?_
  refine W_nil ?_
  refine N_code ?_
  refine C_ret rfl rfl ?_
  exact ⟨bs', hT⟩
theorem insSnap_ok {F : Frz} {w : Hp} {X : List Nat} {bs bs2 : List Nat} {v v2 : Val} {i : Int} {xs ys r : List Snap} (hS : St X w F F [.dp Snap.o bs v xs, .dp Snap.o bs2 v2 ys] w) (H : insD xs i ys = some r) :
    Ret Go.Proofs.Tryz.prog KK 91 [v, .i .i64 i, v2] w fun u w' => ∃ bs', St X w F F [.dp Snap.o bs' u r] w' :=
  ins_dp (z := 4) rfl (by decide) (fun hS hy hz => insESnap rfl hS hy hz) (insKSnap kk_lap) (insKSnap fun _ _ _ _ q => q) (kk_closeSnap) hS H
set_option maxRecDepth 100000 in
theorem insKExp {K : Tb} (hL : ∀ f args h M, KLap Go.Proofs.Tryz.prog f args h M → K f args h M) {h : Hp} {b n m i vb y : Nat} {ck : Cap} {c d : List Val} (hW : Wf h) (hb : b < h.next) (hg : h.get b = some (.cells 3 c)) (hv : h.get vb = some (.cells 3 d)) (hne : vb ≠ b) (hi : i < n) (hnm : n ≤ m) (hcm : c.length = m * 3) (hy : 0 < y) (hyd : y * 3 ≤ d.length) (hc1 : c.all Val.one = true) (hd1 : d.all Val.one = true) (hbig : n + y ≤ 2 ^ 30) (hvb : vb < h.next) :
    Ret Go.Proofs.Tryz.prog K 95 [.sl (some (b, 0)) n (.k m), .i .i64 (i : Int), .sl (some (vb, 0)) y ck] h (InsR 3 h b i n y c d) := by
  have hyd' : d.drop 0 = d := List.drop_zero
  have hge : h.get h.next = none := hW _ (Nat.le_refl _)
  refine Ret_of (args := [.sl (some (b, 0)) n (.k m), .i .i64 (i : Int), .sl (some (vb, 0)) y ck]) Go.Proofs.Tryz.func95 rfl (by decide) rfl ?_
  change C _ _ _ _ _ [(0, .sl (some (b, 0)) n (.k m)), (1, .i .i64 (i : Int)), (2, .sl (some (vb, 0)) y ck)] _
  refine C_seq ?_
  refine C_region rfl ?_
  refine W_c rfl rfl rfl rfl (fun _ => rfl) ?_
  refine W_nil ?_
  refine N_code ?_
  refine C_seq ?_
  refine C_region rfl ?_
  refine W_c rfl rfl rfl rfl (fun _ => rfl) ?_
  refine W_c rfl rfl rfl rfl (fun _ => rfl) ?_
  refine W_c rfl rfl rfl rfl (O_slK i n Go.Proofs.Tryz.underlying36 Ty.size55 rfl (.inr ⟨_, _, rfl, rfl⟩) (.inl ⟨rfl, rfl⟩) (Nat.le_of_lt hi) hnm (Nat.lt_of_lt_of_le hi hnm)) ?_
  refine W_nil ?_
  refine N_code ?_
  refine C_seq ?_
  refine C_region rfl ?_
  refine W_c rfl rfl rfl rfl (fun _ => rfl) ?_
  refine W_r rfl rfl rfl (O_len Go.Proofs.Tryz.underlying36 rfl (.inr ⟨_, _, rfl, fun q => by cases q⟩)) ?_
  refine W_c rfl rfl rfl rfl (fun _ => rfl) ?_
  refine W_nil ?_
  refine N_code ?_
  refine C_seq ?_
  refine C_seq ?_
  refine C_region rfl ?_
  refine W_c rfl rfl rfl rfl (fun _ => rfl) ?_
  refine W_r rfl rfl rfl (O_bin rfl rfl bI_eql) ?_
  refine W_nil ?_
  refine N_code ?_
  refine C_cond rfl (fun hc => absurd (of_decide_eq_true hc) (by omega)) (fun _ => ?_)
  refine C_skip ?_
  refine N_code ?_
  refine C_seq ?_
  refine C_region rfl ?_
  refine W_c rfl rfl rfl rfl (fun _ => rfl) ?_
  refine W_r rfl rfl rfl (O_len Go.Proofs.Tryz.underlying36 rfl (.inr ⟨_, _, rfl, fun q => by cases q⟩)) ?_
  refine W_c rfl rfl rfl rfl (fun _ => rfl) ?_
  refine W_nil ?_
  refine N_code ?_
  refine C_seq ?_
  refine C_seq ?_
  refine C_region rfl ?_
  refine W_c rfl rfl rfl rfl (fun _ => rfl) ?_
  refine W_c rfl rfl rfl rfl (fun _ => rfl) ?_
  refine W_r rfl rfl rfl (O_bin rfl rfl bI_eql) ?_
  refine W_nil ?_
  refine N_code ?_
  refine C_cond rfl (fun hc => absurd (of_decide_eq_true hc) (by omega)) (fun _ => ?_)
  refine C_skip ?_
  refine N_code ?_
  refine C_seq ?_
  refine C_seq ?_
  refine C_region rfl ?_
  refine W_c rfl rfl rfl rfl (fun _ => rfl) ?_
  refine W_c rfl rfl rfl rfl (fun _ => rfl) ?_
  refine W_r rfl rfl rfl (O_bin rfl rfl (bI_addN (a := n) (b := y) (by omega))) ?_
  refine W_c rfl rfl rfl rfl (fun _ => rfl) ?_
  refine W_c (v := .i .i64 (m : Int)) rfl rfl rfl rfl (fun h => by simp only [opAt, List.getD_cons_succ, List.getD_cons_zero, opL, evLL, List.mapM_cons, List.mapM_nil, evLO, look]; rfl) ?_
  refine W_r rfl rfl rfl (O_bin rfl rfl bI_gtr) ?_
  refine W_nil ?_
  refine N_code ?_
  refine C_cond rfl (fun hc => ?_) (fun hc => ?_)
  · have hroom : m < n + y := by have := of_decide_eq_true hc; omega
    refine C_seq ?_
    refine C_region rfl ?_
    refine W_c rfl rfl rfl rfl (fun _ => rfl) ?_
    refine W_c rfl rfl rfl rfl (fun _ => rfl) ?_
    refine W_c rfl rfl rfl rfl (O_slK 0 i Go.Proofs.Tryz.underlying36 Ty.size55 rfl (.inl ⟨rfl, rfl⟩) (.inr ⟨_, _, rfl, rfl⟩) (Nat.zero_le _) (by omega) (by omega)) ?_
    refine W_c rfl rfl rfl rfl (fun _ => rfl) ?_
    refine W_c rfl rfl rfl rfl (fun _ => rfl) ?_
    refine W_r rfl rfl rfl (O_bin rfl rfl (bI_addN (a := n) (b := y) (by omega))) ?_
    refine W_c rfl rfl rfl rfl (fun _ => rfl) ?_
    refine W_r rfl rfl rfl (O_bin rfl rfl (bI_subN (a := n + y) (b := i) (by omega) (by omega))) ?_
    refine W_x rfl rfl rfl (E_apK (N := n + y - i) (c := c) Go.Proofs.Tryz.underlying36 Ty.row55 (by kernel_rfl) rfl rfl (by omega) (by omega) (by omega) (by omega) hg (by rw [hcm]; simp only [Nat.zero_mul, Nat.add_zero, Nat.zero_add, Nat.sub_zero]; exact Nat.mul_le_mul_right _ (by omega)) hc1) ?_
    rintro _ _ ⟨rfl, zs, hzs, hz1, rfl⟩
    refine Nxt.now ?_
    refine W_c rfl rfl rfl rfl (fun _ => rfl) ?_
    refine W_nil ?_
    simp only [Nat.zero_mul, Nat.add_zero, Nat.sub_zero]
    have hin : i + (n + y - i) = n + y := by omega
    rw [hin]
    have g0 : ∀ B q, q < h.next → (h.new B).get q = h.get q := fun B q hq => by rw [Hp.get_new, if_neg (by omega)]
    have h1g : (h.new (.cells 3 ((c.drop 0).take (i * 3) ++ zs))).get h.next = some (.cells 3 ((c.drop 0).take (i * 3) ++ zs)) := by rw [Hp.get_new, if_pos rfl]
    have e1 : (i + y) * 3 = i * 3 + y * 3 := Nat.add_mul _ _ _
    have e2 : (n - i) * 3 = n * 3 - i * 3 := Nat.sub_mul _ _ _
    have e3 : (n + y) * 3 = n * 3 + y * 3 := Nat.add_mul _ _ _
    have e4 : i * 3 ≤ n * 3 := Nat.mul_le_mul_right _ (Nat.le_of_lt hi)
    have e5 : n * 3 ≤ m * 3 := Nat.mul_le_mul_right _ hnm
    have e6 : (n + y - i) * 3 = n * 3 + y * 3 - i * 3 := by rw [Nat.sub_mul, Nat.add_mul]
    have lD : ((d.drop 0).take (y * 3)).length = y * 3 := by rw [List.length_take, List.length_drop]; omega
    have lB : ((c.drop 0).take (i * 3) ++ zs).length = (n + y) * 3 := by rw [List.length_append, List.length_take, List.length_drop]; omega
    have o1 : ((c.drop 0).take (i * 3) ++ zs).all Val.one = true := by rw [List.all_append, part_one hc1, hz1]; rfl
    refine N_code ?_
    refine C_seq ?_
    refine C_region rfl ?_
    refine W_c rfl rfl rfl rfl (fun _ => rfl) ?_
    refine W_c rfl rfl rfl rfl (fun _ => rfl) ?_
    refine W_c rfl rfl rfl rfl (O_slO i (n + y) Go.Proofs.Tryz.underlying36 Ty.size55 rfl (.inr ⟨_, _, rfl, rfl⟩) (.inl ⟨rfl, rfl⟩) (by omega) (Nat.le_refl _) (by omega)) ?_
    refine W_c rfl rfl rfl rfl (fun _ => rfl) ?_
    refine W_x rfl rfl rfl (E_cp (m := y) Go.Proofs.Tryz.underlying36 Ty.size55 rfl rfl (by omega) h1g ((g0 _ _ hvb).trans hv) (by rw [Nat.zero_add]; exact hyd) (by rw [lB]; omega) hd1 hy) ?_
    rintro _ _ rfl
    refine Nxt.now ?_
    refine W_nil ?_
    rw [Nat.zero_add]
    have hl1 := putL_length (c := (c.drop 0).take (i * 3) ++ zs) (o := i * 3) (vs := (d.drop 0).take (y * 3)) (by rw [lD, lB]; omega)
    refine N_code ?_
    refine C_seq ?_
    refine C_regionD (G := fun _ _ => none) [0, 1, 2, 3, 4, 5, 6, 7, 8] rfl Ty.mixed (by kernel_rfl) (fun _ _ _ q => by cases q) ?_
    refine W_c rfl rfl rfl rfl (fun _ => rfl) ?_
    refine W_c rfl rfl rfl rfl (fun _ => rfl) ?_
    refine W_c rfl rfl rfl rfl (fun _ => rfl) ?_
    refine W_r rfl rfl rfl (O_bin rfl rfl (bI_addN (a := i) (b := y) (by omega))) ?_
    refine W_c rfl rfl rfl rfl (O_slO (i + y) (n + y) Go.Proofs.Tryz.underlying36 Ty.size55 rfl (.inr ⟨_, _, rfl, rfl⟩) (.inl ⟨rfl, rfl⟩) (by omega) (Nat.le_refl _) (by omega)) ?_
    refine W_c rfl rfl rfl rfl (fun _ => rfl) ?_
    refine W_c rfl rfl rfl rfl (fun _ => rfl) ?_
    refine W_c rfl rfl rfl rfl (O_slK i n Go.Proofs.Tryz.underlying36 Ty.size55 rfl (.inr ⟨_, _, rfl, rfl⟩) (.inl ⟨rfl, rfl⟩) (by omega) (by omega) (by omega)) ?_
    refine W_x rfl rfl rfl (E_cp (m := n - i) Go.Proofs.Tryz.underlying36 Ty.size55 rfl rfl (by omega) (by rw [Hp.get_set, if_pos rfl]) (by rw [Hp.get_set, if_neg (by omega)]; exact (g0 _ _ hb).trans hg) (by rw [Nat.zero_add]; omega) (by rw [hl1, lB, Nat.zero_add]; omega) hc1 (by omega)) ?_
    rintro _ _ rfl
    refine Nxt.frz (Frz.le.refl _) (fun _ _ _ q => by cases q) ?_
    refine W_nil ?_
    refine N_code ?_
    refine C_seq ?_
    refine C_region rfl ?_
    refine W_c rfl rfl rfl rfl (fun _ => rfl) ?_
    refine W_c rfl rfl rfl rfl (fun _ => rfl) ?_
    refine W_nil ?_
    refine N_code ?_
    refine C_ret rfl rfl ?_
    simp only [Nat.zero_add]
    obtain ⟨k1, k2⟩ := ins_new (z := 3) hi hnm hcm hyd hzs
    refine ⟨h.next, none, _, rfl, by rw [Hp.get_set, if_pos rfl], by rw [List.take_of_length_le (by rw [k2]; omega)]; exact k1, fun _ => by rw [k2]; exact Nat.le_refl _, fun q e => (by cases e), putL_one (putL_one o1 (part_one hd1)) (part_one hc1), Nat.lt_succ_self _, Nat.le_succ _, fun q hq => ?_, fun q hq _ => ?_, .inr (Nat.le_refl _)⟩
    · have hq' : h.next + 1 ≤ q := hq
      rw [Hp.get_set, if_neg (by omega), Hp.get_set, if_neg (by omega), Hp.get_new, if_neg (by omega)]
      exact hW _ (by omega)
    · rw [Hp.get_set, if_neg (by omega), Hp.get_set, if_neg (by omega)]
      exact g0 _ _ hq
  · have hroom : n + y ≤ m := by have := of_decide_eq_false hc; omega
    have e1 : (i + y) * 3 = i * 3 + y * 3 := Nat.add_mul _ _ _
    have e2 : (n - i) * 3 = n * 3 - i * 3 := Nat.sub_mul _ _ _
    have e3 : (n + y) * 3 = n * 3 + y * 3 := Nat.add_mul _ _ _
    have e4 : i * 3 ≤ n * 3 := Nat.mul_le_mul_right _ (Nat.le_of_lt hi)
    have e5 : (n + y) * 3 ≤ m * 3 := Nat.mul_le_mul_right _ hroom
    have e7 : n + y - (i + y) = n - i := by omega
    refine C_skip ?_
    refine N_code ?_
    refine C_seq ?_
    refine C_region rfl ?_
    refine W_c rfl rfl rfl rfl (fun _ => rfl) ?_
    refine W_c rfl rfl rfl rfl (fun _ => rfl) ?_
    refine W_c rfl rfl rfl rfl (fun _ => rfl) ?_
    refine W_r rfl rfl rfl (O_bin rfl rfl (bI_addN (a := n) (b := y) (by omega))) ?_
    refine W_c rfl rfl rfl rfl (O_slK 0 (n + y) Go.Proofs.Tryz.underlying36 Ty.size55 rfl (.inl ⟨rfl, rfl⟩) (.inr ⟨_, _, rfl, rfl⟩) (Nat.zero_le _) (by omega) (by omega)) ?_
    refine W_c rfl rfl rfl rfl (fun _ => rfl) ?_
    refine W_nil ?_
    simp only [Nat.zero_mul, Nat.add_zero, Nat.sub_zero]
    refine N_code ?_
    refine C_seq ?_
    refine C_seq ?_
    refine C_region rfl ?_
    refine W_c rfl rfl rfl rfl (fun _ => rfl) ?_
    refine W_c rfl rfl rfl rfl (fun _ => rfl) ?_
    refine W_c rfl rfl rfl rfl (fun _ => rfl) ?_
    refine W_c rfl rfl rfl rfl (fun _ => rfl) ?_
    refine W_r rfl rfl rfl (O_bin rfl rfl (bI_addN (a := i) (b := y) (by omega))) ?_
    refine W_c rfl rfl rfl rfl (O_slK (i + y) (n + y) Go.Proofs.Tryz.underlying36 Ty.size55 rfl (.inr ⟨_, _, rfl, rfl⟩) (.inl ⟨rfl, rfl⟩) (by omega) (by omega) (by omega)) ?_
    refine W_call (f := 143) (args := [.sl (some (vb, 0)) y ck, .sl (some (b, 0 + (i + y) * 3)) (n + y - (i + y)) (.k (m - (i + y)))]) rfl rfl rfl rfl (XW.known (M := fun v w' => v = .b false ∧ w' = h) (hL _ _ _ _ ⟨_, _, 4, _, _, _, _, _, _, _, _, _, _, _, _, _, _, Go.Proofs.Tryz.func143, rfl, rfl, rfl, by kernel_rfl, Go.Proofs.Tryz.underlying36, Ty.size55, rfl, hne, hv, by decide, by omega, hg, by omega, rfl, rfl⟩) fun v h' q => ⟨v, h', rfl, q⟩) ?_
    rintro _ w1 ⟨rfl, hw1⟩
    obtain rfl : h = w1 := hw1.symm
    refine Nxt.now ?_
    refine W_c rfl rfl rfl rfl (fun _ => rfl) ?_
    refine W_nil ?_
    refine N_code ?_
    refine C_cond_t rfl ?_
    refine C_seq ?_
    refine C_regionD (G := fun _ _ => none) [0, 1, 2, 3, 4, 5, 6, 7, 8] rfl Ty.mixed (by kernel_rfl) (fun _ _ _ q => by cases q) ?_
    refine W_c rfl rfl rfl rfl (fun _ => rfl) ?_
    refine W_c rfl rfl rfl rfl (fun _ => rfl) ?_
    refine W_c rfl rfl rfl rfl (fun _ => rfl) ?_
    refine W_r rfl rfl rfl (O_bin rfl rfl (bI_addN (a := i) (b := y) (by omega))) ?_
    refine W_c rfl rfl rfl rfl (O_slK (i + y) (n + y) Go.Proofs.Tryz.underlying36 Ty.size55 rfl (.inr ⟨_, _, rfl, rfl⟩) (.inl ⟨rfl, rfl⟩) (by omega) (by omega) (by omega)) ?_
    refine W_c rfl rfl rfl rfl (fun _ => rfl) ?_
    refine W_c rfl rfl rfl rfl (fun _ => rfl) ?_
    refine W_c rfl rfl rfl rfl (O_slK i (n + y) Go.Proofs.Tryz.underlying36 Ty.size55 rfl (.inr ⟨_, _, rfl, rfl⟩) (.inl ⟨rfl, rfl⟩) (by omega) (by omega) (by omega)) ?_
    refine W_x rfl rfl rfl (E_cp (m := n - i) Go.Proofs.Tryz.underlying36 Ty.size55 rfl rfl (by omega) hg hg (by rw [Nat.zero_add]; omega) (by rw [Nat.zero_add]; omega) hc1 (by omega)) ?_
    rintro _ _ rfl
    refine Nxt.frz (Frz.le.refl _) (fun _ _ _ q => by cases q) ?_
    refine W_nil ?_
    simp only [Nat.zero_add]
    have lA : ((c.drop (i * 3)).take ((n - i) * 3)).length = (n - i) * 3 := by rw [List.length_take, List.length_drop]; omega
    have hl1 := putL_length (c := c) (o := (i + y) * 3) (vs := (c.drop (i * 3)).take ((n - i) * 3)) (by rw [lA]; omega)
    refine N_code ?_
    refine C_seq ?_
    refine C_region rfl ?_
    refine W_c rfl rfl rfl rfl (fun _ => rfl) ?_
    refine W_c rfl rfl rfl rfl (fun _ => rfl) ?_
    refine W_c rfl rfl rfl rfl (O_slK i (n + y) Go.Proofs.Tryz.underlying36 Ty.size55 rfl (.inr ⟨_, _, rfl, rfl⟩) (.inl ⟨rfl, rfl⟩) (by omega) (by omega) (by omega)) ?_
    refine W_c rfl rfl rfl rfl (fun _ => rfl) ?_
    refine W_x rfl rfl rfl (E_cp (m := y) Go.Proofs.Tryz.underlying36 Ty.size55 rfl rfl (by omega) (by rw [Hp.get_set, if_pos rfl]) (by rw [Hp.get_set, if_neg hne]; exact hv) (by rw [Nat.zero_add]; exact hyd) (by rw [hl1, Nat.zero_add]; omega) hd1 hy) ?_
    rintro _ _ rfl
    refine Nxt.now ?_
    refine W_nil ?_
    refine N_code ?_
    refine C_seq ?_
    refine C_region rfl ?_
    refine W_c rfl rfl rfl rfl (fun _ => rfl) ?_
    refine W_c rfl rfl rfl rfl (fun _ => rfl) ?_
    refine W_nil ?_
    refine N_code ?_
    refine C_ret rfl rfl ?_
    simp only [Nat.zero_add]
    obtain ⟨k1, k2⟩ := ins_in (z := 3) hi hroom hcm hyd
    refine ⟨b, some m, _, rfl, by rw [Hp.get_set, if_pos rfl], k1, fun e => (by cases e), fun q e => (by obtain rfl := Option.some.inj e; exact ⟨k2, hroom⟩), putL_one (putL_one hc1 (part_one hc1)) (part_one hd1), hb, Nat.le_refl _, fun q hq => ?_, fun q hq hqb => ?_, .inl rfl⟩
    · have hq' : h.next ≤ q := hq
      rw [Hp.get_set, if_neg (by omega), Hp.get_set, if_neg (by omega)]
      exact hW _ hq'
    · rw [Hp.get_set, if_neg hqb, Hp.get_set, if_neg hqb]
set_option maxRecDepth 100000 in
theorem insEExp {K : Tb} {t : To Exp} {X : List Nat} {h0 h : Hp} {F0 F : Frz} {L : List Ob} {bs bs2 : List Nat} {v v2 : Val} {xs ys zs : List Exp} (hts : t.size = 3) (hS : St X h0 F0 F (.dp t bs2 v2 ys :: .dp t bs v xs :: L) h) (hy : 0 < ys.length) (hz : app xs ys = some zs) :
    Ret Go.Proofs.Tryz.prog K 95 [v, .i .i64 (xs.length : Int), v2] h (fun u h' => ∃ bs', St X h0 F0 F (.dp t bs' u zs :: L) h') := by
  have hfew := (app_some hz).1
  refine Ret_of (args := [v, .i .i64 (xs.length : Int), v2]) Go.Proofs.Tryz.func95 rfl (by decide) rfl ?_
  change C _ _ _ _ _ [(0, v), (1, .i .i64 (xs.length : Int)), (2, v2)] _
  refine C_seq ?_
  refine C_region rfl ?_
  refine W_c rfl rfl rfl rfl (fun _ => rfl) ?_
  refine W_nil ?_
  refine N_code ?_
  refine C_seq ?_
  refine C_region rfl ?_
  refine W_c rfl rfl rfl rfl (fun _ => rfl) ?_
  refine W_c rfl rfl rfl rfl (fun _ => rfl) ?_
  refine W_cutD (t := t) 1 (xs.length : Int) (xs.length : Int) rfl rfl rfl rfl Go.Proofs.Tryz.underlying36 (by rw [hts]; exact Ty.size55) rfl (.inr ⟨_, _, rfl, rfl⟩) (.inl ⟨rfl, rfl⟩) hS rfl (by omega) (by omega) (by omega) ?_
  intro v'
  refine W_nil ?_
  refine N_code ?_
  refine C_seq ?_
  refine C_region rfl ?_
  refine W_c rfl rfl rfl rfl (fun _ => rfl) ?_
  refine W_r rfl rfl rfl (O_len Go.Proofs.Tryz.underlying36 rfl (hS.dpLn (k := 0) rfl)) ?_
  refine W_c rfl rfl rfl rfl (fun _ => rfl) ?_
  refine W_nil ?_
  refine N_code ?_
  refine C_seq ?_
  refine C_seq ?_
  refine C_region rfl ?_
  refine W_c rfl rfl rfl rfl (fun _ => rfl) ?_
  refine W_r rfl rfl rfl (O_bin rfl rfl bI_eql) ?_
  refine W_nil ?_
  refine N_code ?_
  refine C_cond rfl (fun hc => absurd (of_decide_eq_true hc) (by omega)) (fun _ => ?_)
  refine C_skip ?_
  refine N_code ?_
  refine C_seq ?_
  refine C_region rfl ?_
  refine W_c rfl rfl rfl rfl (fun _ => rfl) ?_
  refine W_r rfl rfl rfl (O_len Go.Proofs.Tryz.underlying36 rfl (hS.dpLn (k := 1) rfl)) ?_
  refine W_c rfl rfl rfl rfl (fun _ => rfl) ?_
  refine W_nil ?_
  refine N_code ?_
  refine C_seq ?_
  refine C_seq ?_
  refine C_region rfl ?_
  refine W_c rfl rfl rfl rfl (fun _ => rfl) ?_
  refine W_c rfl rfl rfl rfl (fun _ => rfl) ?_
  refine W_r rfl rfl rfl (O_bin rfl rfl bI_eql) ?_
  refine W_nil ?_
  refine N_code ?_
  refine C_cond rfl (fun _ => ?_) (fun hc => absurd rfl (of_decide_eq_false hc))
  refine C_seq ?_
  refine C_region rfl ?_
  refine W_c rfl rfl rfl rfl (fun _ => rfl) ?_
  refine W_c rfl rfl rfl rfl (fun _ => rfl) ?_
  refine W_x rfl rfl rfl (E_appD (t := t) Go.Proofs.Tryz.underlying36 (by rw [hts]; exact Ty.row55) (by kernel_rfl) rfl rfl hS hz) ?_
  rintro u w' ⟨bs', hT⟩
  refine Nxt.now ?_
  refine W_c rfl rfl rfl rfl (fun _ => rfl) ?_
  refine W_nil ?_
  refine N_code ?_
  refine C_ret rfl rfl ?_
  exact ⟨bs', hT⟩
theorem insExp_ok {F : Frz} {w : Hp} {X : List Nat} {bs bs2 : List Nat} {v v2 : Val} {i : Int} {xs ys r : List Exp} (hS : St X w F F [.dp Exp.o bs v xs, .dp Exp.o bs2 v2 ys] w) (H : insD xs i ys = some r) :
    Ret Go.Proofs.Tryz.prog KK 95 [v, .i .i64 i, v2] w fun u w' => ∃ bs', St X w F F [.dp Exp.o bs' u r] w' :=
  ins_dp (z := 3) rfl (by decide) (fun hS hy hz => insEExp rfl hS hy hz) (insKExp kk_lap) (insKExp fun _ _ _ _ q => q) (kk_closeExp) hS H
end Go.Wk.Lf
end
