/- Plain lemmas on the words of lifted functions. What tree.Name tells, plainly. What manifest.Check tells, plainly; bytes of manifests. Lists: each once of what stands side by side. What manifest.Ids tells, plainly. Numbers read out of bytes; readers, plainly. What manifest.Read tells, plainly. What catalog.Check tells, plainly. Where something stands, or should, in a row that rises: slices.BinarySearchFunc, plainly. catalog.Check, plainly, whole. Catalogs compared, made anew; rows sorted: plainly. Manifests' bytes: of unlike ones unlike, none a beginning of another's. What rebuild.From tells where nothing of use was found; what is Part of a new catalog. A chunk that was found: by evaluation. RebuildEmpty, plainly. -/
import Derived.Test.YtfphkkaifgnlgaaGreatG6
set_option linter.unusedVariables false
set_option linter.unusedSimpArgs false
section
namespace Go.Wk.Lf
open Go.V Go.Proofs
noncomputable section
def rebuild_chunk.k1 (x0 : Catalog) (x1 : Found) (r13 : Int × Bool) (l16 : List Chunk) : Option Catalog :=
  bd (ix l16 r13.1) fun x20 =>
  bd (app (α := Loc) x20.locs [x1.loc]) fun l24 =>
  bd (ix l16 r13.1) fun x26 =>
  some (Catalog.mk x0.seq x0.snaps (l16.set r13.1.toNat (Chunk.mk x26.id x26.staged x26.data l24)) x0.exps x0.vols)
def rebuild_chunk (x0 : Catalog) (x1 : Found) : Option Catalog :=
  if (decide ((x1.rec_.data.length : Int) < 1) || decide (64 < (x1.rec_.data.length : Int))) then
    some x0
  else
    bd (sha_Sum [x1.rec_.data]) fun r9 =>
    bd (catalog_Place x0.chunks r9) fun r13 =>
    if (!r13.2) then
      bd (insD x0.chunks r13.1 [(Chunk.mk r9 false [] [])]) fun l37 =>
      rebuild_chunk.k1 x0 x1 r13 l37
    else
      rebuild_chunk.k1 x0 x1 r13 x0.chunks
set_option maxRecDepth 100000 in
theorem rebuild_chunk_ok {F : Frz} {w : Hp} {X : List Nat} {x0 : Catalog} {x1 : Found} {r : Catalog} {gp0 : Nat} {v0_1 : Val} {bsv0_1 : List Nat} {v0_2 : Val} {bsv0_2 : List Nat} {v0_3 : Val} {bsv0_3 : List Nat} {v0_4 : Val} {v1_0 : Val} (hS : St X w F F [.box gp0 [.i .i64 x0.seq, v0_1, v0_2, v0_3, v0_4], .dp Snap.o bsv0_1 v0_1 x0.snaps, .dp Chunk.o bsv0_2 v0_2 x0.chunks, .dp Exp.o bsv0_3 v0_3 x0.exps, .row Vol.t v0_4 x0.vols] w) (h1_0 : SlF tB F v1_0 x1.rec_.data) (H : rebuild_chunk x0 x1 = some r) : Ret Tryz.prog KK 43 [pl gp0 0, .agg (Found.cells x1 v1_0)] w fun v w' => ∃ (F' : Frz) (z0_1 : Val) (bsz0_1 : List Nat) (z0_2 : Val) (bsz0_2 : List Nat) (z0_3 : Val) (bsz0_3 : List Nat), v = .tup [] ∧ St X w F F' [.box gp0 [.i .i64 r.seq, z0_1, z0_2, z0_3, v0_4], .dp Snap.o bsz0_1 z0_1 r.snaps, .dp Chunk.o bsz0_2 z0_2 r.chunks, .dp Exp.o bsz0_3 z0_3 r.exps, .row Vol.t v0_4 r.vols] w' := by
 refine qa2 Tryz.func43 ?_;dsimp only [rebuild_chunk] at H;refine qs ?_;refine xm (E_bx (cs := [.i .i64 x1.rec_.kind, .i .i64 x1.rec_.seq, v1_0, .i .i64 x1.loc.vol, .i .i64 x1.loc.file, .i .i64 x1.loc.off, .i .i64 x1.loc.len]) rfl rfl (by simp only [List.all_cons, List.all_nil, List.all_append, h1_0.ln.one]; rfl) hS) ?_;rintro _ w1 ⟨g1, rfl, hS1⟩;refine qn ?_;refine C_seq ?_;refine qs ?_;refine qf Ty.field53_0 ?_;refine qf Ty.field49_2 ?_;refine qb 0 Ty.cell47 hS1 ?_;refine qr (O_len Tryz.underlying47 rfl h1_0.ln) ?_;refine qr (O_bin rfl rfl bI_lss) ?_;refine qc ?_;refine W_gs (v := pl g1 (0 + 0)) rfl rfl rfl rfl (fun ⟨hb2, _⟩ => ?_) ?_
 ·rw [hb2];intro hK;refine qf Ty.field53_0 ?_;exact hK
 refine W_gs (v := pl g1 (0 + 0 + 2)) rfl rfl rfl rfl (fun ⟨hb3, _⟩ => ?_) ?_
 ·rw [hb3];intro hK;refine qf Ty.field49_2 ?_;exact hK
 refine W_gs (v := v1_0) rfl rfl rfl rfl (fun ⟨hb4, _⟩ => ?_) ?_
 ·rw [hb4];intro hK;refine qb 0 Ty.cell47 hS1 ?_;exact hK
 refine W_gs (v := .i .i64 (x1.rec_.data.length : Int)) rfl rfl rfl rfl (fun ⟨hb5, _⟩ => ?_) ?_
 ·rw [hb5];intro hK;refine qr (O_len Tryz.underlying47 rfl h1_0.ln) ?_;exact hK
 refine W_gs (v := .b (decide (64 < (x1.rec_.data.length : Int)))) rfl rfl rfl rfl (fun ⟨hb6, _⟩ => ?_) ?_
 ·rw [hb6];intro hK;refine qr (O_bin rfl rfl bI_gtr) ?_;exact hK
 refine W_pkO rfl rfl rfl rfl rfl rfl (fun hc => by rw [hc]; rfl) ?_;refine qn ?_;refine C_cond rfl (fun hc7 => ?_) (fun hc7 => ?_)
 ·rw [if_t hc7] at H;obtain rfl := oi H;refine C_ret rfl rfl ?_;exact ⟨F, v0_1, bsv0_1, v0_2, bsv0_2, v0_3, bsv0_3, rfl, hS1.pick [1, 2, 3, 4, 5] (by decide)⟩
 ·rw [if_f hc7] at H;refine qk ?_;refine C_seq ?_;obtain ⟨r9, hr9, H⟩ := bd_some H;refine qd ?_;refine qf Ty.field53_0 ?_;refine qf Ty.field49_2 ?_;refine qb 0 Ty.cell47 hS1 ?_;refine xm (E_bs (t := (tSl tB)) (vs := [v1_0]) (xs := [x1.rec_.data]) Tryz.underlying95 Ty.row47 rfl (by simp only [List.map_cons, List.map_nil, h1_0.ln.cells]; exact ⟨⟨_, rfl, h1_0⟩, trivial⟩) rfl rfl hS1) ?_;rintro u8 w8 hS8;refine lm (sha_Sum_ok (Gd.now hS8.wf) (hS8.rowNow (k := 0) rfl) hr9) ?_;rintro v11 w11 ⟨Fr9, rfl, hlr9_0, hT11⟩;have hS11 := hS8.lentFlat hT11 trivial;refine xm (E_alc (cs := idCells (List.replicate 32 (0 : UInt8))) Ty.zero58 rfl hS11) ?_;rintro _ w10 ⟨g10, rfl, hS10⟩;refine um (E_bst (c := idCells r9) 0 (idCells r9) rfl rfl hS10 rfl rfl Ty.size58 rfl rfl rfl) ?_;rintro _ w12 hS12;refine qn ?_;refine C_seq ?_;obtain ⟨r13, hr13, H⟩ := bd_some H;refine C_regionD (G := F) [0, 1, 2, 3, 4, 5, 6, 7, 8, 9, 10] rfl Ty.mixed (by kernel_rfl) hS12.agree ?_;refine q2 ?_;refine qf Ty.field38_2 ?_;refine qbq 3 Ty.cell35 hS12 ?_;refine qq (O_bldg 0 (idCells r9) Ty.agg58 Ty.size58 (Nat.zero_lt_succ _) rfl hS12 rfl (fun q u h => sub_at (post := []) rfl h)) ?_;refine ql (catalog_Place_ok (Gd.now hS12.wf) (hS12.dpNow (k := 5) rfl Chunk.sees) hlr9_0 hr13) ?_;rintro v14 w14 ⟨Fr13, rfl, hT14⟩;have hS14 := hS12.lent hT14;refine Nxt.frz (Frz.le.refl _) hS14.agree ?_;refine q4 ?_;refine qm ?_;refine C_seq_join (fun E wq => ∃ l16 : List Chunk, rebuild_chunk.k1 x0 x1 r13 l16 = some r ∧ ∃ (F15 : Frz) (u17 : Val) (bs19 : List Nat), E = [(0, pl gp0 0), (3, pl g1 0), (5, .i .i64 r13.1)] ∧ F.le F15 ∧ St X w F F15 [.box g1 [.i .i64 x1.rec_.kind, .i .i64 x1.rec_.seq, v1_0, .i .i64 x1.loc.vol, .i .i64 x1.loc.file, .i .i64 x1.loc.off, .i .i64 x1.loc.len], .box gp0 [.i .i64 x0.seq, v0_1, u17, v0_3, v0_4], .dp Snap.o bsv0_1 v0_1 x0.snaps, .dp Exp.o bsv0_3 v0_3 x0.exps, .row Vol.t v0_4 x0.vols, .dp Chunk.o bs19 u17 l16] wq) ?_ ?_
  ·refine qs ?_;refine qc ?_;refine qm ?_;refine C_cond rfl (fun hc35 => ?_) (fun hc35 => ?_)
   ·rw [if_t hc35] at H;obtain ⟨l37, hl37, H⟩ := bd_some H;refine C_regionD (G := F) [0, 1, 2, 3, 4, 5, 6, 7, 8, 9, 10, 11, 12] rfl Ty.mixed (by kernel_rfl) hS14.agree ?_;refine q3 ?_;refine qf Ty.field38_2 ?_;refine qbq 3 Ty.cell35 hS14 ?_;refine qc ?_;refine qq (O_bldg 0 (idCells r9) Ty.agg58 Ty.size58 (Nat.zero_lt_succ _) rfl hS14 rfl (fun q u h => sub_at (post := []) rfl h)) ?_;refine W_c (v := .agg (Chunk.cells (Chunk.mk r9 false [] []) (.sl none 0 (.k 0)) (.sl none 0 (.k 0)))) rfl rfl rfl rfl (fun _ => rfl) ?_;refine qx (E_bs1 (t := Chunk.o) (u := .agg (Chunk.cells (Chunk.mk r9 false [] []) (.sl none 0 (.k 0)) (.sl none 0 (.k 0)))) (x := (Chunk.mk r9 false [] [])) Tryz.underlying35 Ty.row60 rfl ⟨.sl none 0 (.k 0), .sl none 0 (.k 0), rfl, hlr9_0, (SlF.nil _), ⟨_, rfl, .inl ⟨rfl, rfl, rfl⟩⟩⟩ rfl rfl hS14) ?_;rintro u36 w36 ⟨bs36, hS36⟩;refine Nxt.frz (Frz.le.refl _) hS36.agree ?_;refine ql (insChunk_ok (hS36.lendL [6, 0] (by decide)) hl37) ?_;rintro u38 w38 ⟨bs38, hT38⟩;have hS38 := hS36.backL [6, 0] [1, 2, 3, 4, 5, 7, 8] (by decide) (by decide) hT38;refine Nxt.frz (Frz.le.refl _) hS38.agree ?_;refine qc ?_;refine qf Ty.field38_2 ?_;refine qu (E_bst (c := [u38]) 4 ([.i .i64 x0.seq, v0_1, u38, v0_3, v0_4]) rfl rfl hS38 rfl (hS38.dpLn (k := 0) rfl).cells Ty.size35 (by simp only [List.all_cons, List.all_nil, List.all_append, (hS38.dpLn (k := 0) rfl).one]; rfl) rfl rfl) ?_;rintro _ w39 hS39;refine Nxt.frz (Frz.le.refl _) hS39.agree ?_;refine W_nil ?_;exact N_join _ ⟨l37, H, ⟨F, u38, bs38, rfl, (Frz.le.refl _), hS39.pick [3, 4, 5, 6, 7, 0] (by decide)⟩⟩ ⟨rfl, rfl, rfl, trivial⟩
   ·rw [if_f hc35] at H;refine C_skip ?_;exact N_join _ ⟨x0.chunks, H, ⟨F, v0_2, bsv0_2, rfl, (Frz.le.refl _), hS14.pick [2, 3, 4, 6, 7, 5] (by decide)⟩⟩ ⟨rfl, rfl, rfl, trivial⟩
  ·rintro E w15 ⟨l16, H, F15, u17, bs19, rfl, le15, hS15⟩;dsimp only [rebuild_chunk.k1] at H;obtain ⟨x20, hx20, H⟩ := bd_some H;obtain ⟨l24, hl24, H⟩ := bd_some H;obtain ⟨x26, hx26, H⟩ := bd_some H;have hb29 := hS15.boxAt 1 rfl;refine C_regionD (G := (F15.hold w15 [gp0])) [0, 1, 2, 3, 4, 5, 6, 7, 8, 9, 10, 11, 12, 13, 14, 15, 16, 17, 18, 19] rfl Ty.mixed (by kernel_rfl) (HB.agree (HB.cons 1 hb29 hS15 rfl HB.nil) hS15.agree) ?_;refine q2 ?_;refine qf Ty.field38_2 ?_;refine qr (O_fld1 Ty.cell35 rfl (hb29.held (HB.cons 1 hb29 hS15 rfl HB.nil) (by simp)) rfl) ?_;refine q3 ?_;refine qf Ty.field38_2 ?_;refine qbq 1 Ty.cell35 hS15 ?_;refine qc ?_;obtain ⟨hp30, hy30⟩ := ix_some hx20;obtain ⟨cs30, hr30, he30⟩ := (hS15.dpNow (k := 5) rfl Chunk.sees).el hy30;obtain ⟨ue21_0, ue21_1, rfl, hle21_0, hue21_0, hue21_1⟩ := hr30;replace he30 : Elf _ _ 35 _ _ := he30;have hi30 := he30.ixd;refine qi Tryz.underlying35 Ty.size60 hi30 hp30 ?_;refine qr (O_fld 34 Ty.field60_3 rfl hi30) ?_;obtain ⟨u22, bs22, cs22, he22, hu22, hS22⟩ := hS15.focus Chunk.foc 5 rfl (ix_some hx20).2;replace he22 : Elf _ _ 35 _ _ := he22;refine qq (O_ld1 34 Ty.cell44 rfl he22 (by omega) hu22) ?_;refine qf Ty.field53_1 ?_;refine qq (O_bldg 1 (Loc.cells x1.loc) Ty.agg51 Ty.size51 (Nat.zero_lt_succ _) rfl hS22 rfl (fun q u h => sub_at (post := []) rfl h)) ?_;refine qx (E_bs (t := Loc.t) (vs := [.agg (Loc.cells x1.loc)]) (xs := [x1.loc]) Tryz.underlying44 Ty.row51 rfl ⟨rfl, trivial⟩ rfl rfl hS22) ?_;rintro u23 w23 hS23;refine qh 3 hb29 hS23 ?_;refine qx (E_app (t := Loc.t) 1 Tryz.underlying44 Ty.row51 Ty.zk44 rfl rfl hS23 rfl (hS23.rowSrc (k := 0) rfl) hl24) ?_;rintro v25 w25 hS25;refine qh 3 hb29 hS25 ?_;obtain ⟨hp31, hy31⟩ := ix_some hx26;have hi31 := hS25.dpIx (k := 7) rfl (butL_at hy31);refine qi Tryz.underlying35 Ty.size60 hi31 hp31 ?_;obtain ⟨hp32, hy32⟩ := ix_some hx26;have hi32 := hS25.dpIx (k := 7) rfl (butL_at hy32);refine qr (O_fld 34 Ty.field60_3 rfl hi32) ?_;obtain ⟨hp33, hy33⟩ := ix_some hx26;have hi33 := hS25.dpIx (k := 7) rfl (butL_at hy33);have hS34 := hS25.pick [1, 7, 0, 2, 3, 4, 5, 6] (by decide);refine qu (E_fill Chunk.foc (r13.1.toNat) rfl rfl hS34 (ix_some hx26).2 (by first | rfl | (show _ = _ * 35 + _; omega)) Ty.size44) ?_;rintro _ w28 ⟨bs28, hS28⟩;refine qh 3 hb29 hS28 ?_;refine W_nil ?_;obtain rfl := oi H;refine N_done rfl rfl ?_;exact ⟨F15, v0_1, bsv0_1, u17, bs28, v0_3, bsv0_3, rfl, hS28.pick [3, 4, 0, 5, 6] (by decide)⟩
def rebuild_snap.k1 (x0 : Catalog) (x1 : Found) (r7 : Int × Bool) (l10 : List Snap) : Option Catalog :=
  bd (ix l10 r7.1) fun x14 =>
  bd (app (α := Loc) x14.locs [x1.loc]) fun l18 =>
  bd (ix l10 r7.1) fun x20 =>
  some (Catalog.mk (if x0.seq < wr ((if 1073741824 < x1.rec_.seq then 1073741824 else x1.rec_.seq) + 1) then wr ((if 1073741824 < x1.rec_.seq then 1073741824 else x1.rec_.seq) + 1) else x0.seq) (l10.set r7.1.toNat (Snap.mk x20.seq x20.man l18)) x0.chunks x0.exps x0.vols)
def rebuild_snap (x0 : Catalog) (x1 : Found) : Option Catalog :=
  bd (manifest_Read x1.rec_.data) fun r2 =>
  if decide (r2.2 ≠ 0) then
    some x0
  else
    bd (slices_BinarySearchFunc_api_Snap_api_Snap_int_rebuild_snap_1 x0.snaps x1.rec_.seq) fun r7 =>
    if (!r7.2) then
      bd (insD x0.snaps r7.1 [(Snap.mk x1.rec_.seq r2.1 [])]) fun l32 =>
      rebuild_snap.k1 x0 x1 r7 l32
    else
      rebuild_snap.k1 x0 x1 r7 x0.snaps
set_option maxRecDepth 100000 in
theorem rebuild_snap_ok {F : Frz} {w : Hp} {X : List Nat} {x0 : Catalog} {x1 : Found} {r : Catalog} {gp0 : Nat} {v0_1 : Val} {bsv0_1 : List Nat} {v0_2 : Val} {bsv0_2 : List Nat} {v0_3 : Val} {bsv0_3 : List Nat} {v0_4 : Val} {v1_0 : Val} (hS : St X w F F [.box gp0 [.i .i64 x0.seq, v0_1, v0_2, v0_3, v0_4], .dp Snap.o bsv0_1 v0_1 x0.snaps, .dp Chunk.o bsv0_2 v0_2 x0.chunks, .dp Exp.o bsv0_3 v0_3 x0.exps, .row Vol.t v0_4 x0.vols] w) (h1_0 : SlF tB F v1_0 x1.rec_.data) (H : rebuild_snap x0 x1 = some r) : Ret Tryz.prog KK 44 [pl gp0 0, .agg (Found.cells x1 v1_0)] w fun v w' => ∃ (F' : Frz) (z0_1 : Val) (bsz0_1 : List Nat) (z0_2 : Val) (bsz0_2 : List Nat) (z0_3 : Val) (bsz0_3 : List Nat), v = .tup [] ∧ St X w F F' [.box gp0 [.i .i64 r.seq, z0_1, z0_2, z0_3, v0_4], .dp Snap.o bsz0_1 z0_1 r.snaps, .dp Chunk.o bsz0_2 z0_2 r.chunks, .dp Exp.o bsz0_3 z0_3 r.exps, .row Vol.t v0_4 r.vols] w' := by
 refine qa2 Tryz.func44 ?_;dsimp only [rebuild_snap] at H;refine qs ?_;refine xm (E_bx (cs := [.i .i64 x1.rec_.kind, .i .i64 x1.rec_.seq, v1_0, .i .i64 x1.loc.vol, .i .i64 x1.loc.file, .i .i64 x1.loc.off, .i .i64 x1.loc.len]) rfl rfl (by simp only [List.all_cons, List.all_nil, List.all_append, h1_0.ln.one]; rfl) hS) ?_;rintro _ w1 ⟨g1, rfl, hS1⟩;refine qn ?_;refine C_seq ?_;obtain ⟨r2, hr2, H⟩ := bd_some H;refine qd ?_;refine qf Ty.field53_0 ?_;refine qf Ty.field49_2 ?_;refine qb 0 Ty.cell47 hS1 ?_;refine lm (manifest_Read_ok hS1.good h1_0 hr2) ?_;rintro v4 w4 ⟨Fr2, ur2_0_0, rfl, hfr2_0_0, hT4⟩;have hS4 := hS1.call hT4;have ler2 := hT4.ext;refine q3 ?_;refine xm (E_alc (cs := [.s [], .sl none 0 (.k 0)]) Ty.zero43 rfl hS4) ?_;rintro _ w3 ⟨g3, rfl, hS3⟩;refine um (E_bst (c := [.s r2.1.name, ur2_0_0]) 0 ([.s r2.1.name, ur2_0_0]) rfl rfl hS3 rfl rfl Ty.size43 (by simp only [List.all_cons, List.all_nil, List.all_append, hfr2_0_0.ln.one]; rfl) rfl rfl) ?_;rintro _ w5 hS5;refine qm ?_;refine C_seq ?_;refine qs ?_;refine qc ?_;refine qr (O_bin rfl rfl bI_neq) ?_;refine qn ?_;refine C_cond rfl (fun hc6 => ?_) (fun hc6 => ?_)
 ·rw [if_t hc6] at H;obtain rfl := oi H;refine C_ret rfl rfl ?_;exact ⟨Fr2, v0_1, bsv0_1, v0_2, bsv0_2, v0_3, bsv0_3, rfl, hS5.pick [2, 3, 4, 5, 6] (by decide)⟩
 ·rw [if_f hc6] at H;refine qk ?_;refine C_seq ?_;obtain ⟨r7, hr7, H⟩ := bd_some H;refine C_regionD (G := Fr2) [0, 1, 2, 3, 4, 5, 6, 7, 8, 9, 10, 11, 12] rfl Ty.mixed (by kernel_rfl) hS5.agree ?_;refine q2 ?_;refine qf Ty.field38_1 ?_;refine qbq 2 Ty.cell34 hS5 ?_;refine qf Ty.field53_0 ?_;refine qf Ty.field49_1 ?_;refine qbq 1 Ty.cell3 hS5 ?_;refine ql (slices_BinarySearchFunc_api_Snap_api_Snap_int_rebuild_snap_1_ok (Gd.now hS5.wf) (hS5.dpNow (k := 3) rfl Snap.sees) hr7) ?_;rintro v8 w8 ⟨Fr7, rfl, hT8⟩;have hS8 := hS5.lent hT8;refine Nxt.frz (Frz.le.refl _) hS8.agree ?_;refine q4 ?_;refine qm ?_;refine C_seq_join (fun E wq => ∃ l10 : List Snap, rebuild_snap.k1 x0 x1 r7 l10 = some r ∧ ∃ (F9 : Frz) (u11 : Val) (bs13 : List Nat), E = [(0, pl gp0 0), (3, pl g1 0), (6, .i .i64 r7.1)] ∧ Fr2.le F9 ∧ St X w F F9 [.box g1 [.i .i64 x1.rec_.kind, .i .i64 x1.rec_.seq, v1_0, .i .i64 x1.loc.vol, .i .i64 x1.loc.file, .i .i64 x1.loc.off, .i .i64 x1.loc.len], .box gp0 [.i .i64 x0.seq, u11, v0_2, v0_3, v0_4], .dp Chunk.o bsv0_2 v0_2 x0.chunks, .dp Exp.o bsv0_3 v0_3 x0.exps, .row Vol.t v0_4 x0.vols, .dp Snap.o bs13 u11 l10] wq) ?_ ?_
  ·refine qs ?_;refine qc ?_;refine qm ?_;refine C_cond rfl (fun hc30 => ?_) (fun hc30 => ?_)
   ·rw [if_t hc30] at H;obtain ⟨l32, hl32, H⟩ := bd_some H;refine C_regionD (G := Fr2) [0, 1, 2, 3, 4, 5, 6, 7, 8, 9, 10, 11, 12, 13, 14, 15] rfl Ty.mixed (by kernel_rfl) hS8.agree ?_;refine q3 ?_;refine qf Ty.field38_1 ?_;refine qbq 2 Ty.cell34 hS8 ?_;refine qc ?_;refine qf Ty.field53_0 ?_;refine qf Ty.field49_1 ?_;refine qbq 1 Ty.cell3 hS8 ?_;refine qq (O_bldg 0 (Manifest.cells r2.1 ur2_0_0) Ty.agg43 Ty.size43 (Nat.zero_lt_succ _) rfl hS8 rfl (fun q u h => sub_at (post := []) rfl h)) ?_;have hcl34 := hfr2_0_0.ln.cells;refine qr (O_build (vs := [(0, .i .i64 x1.rec_.seq), (1, .agg (Manifest.cells r2.1 ur2_0_0))]) (v := .agg (Snap.cells (Snap.mk x1.rec_.seq r2.1 []) ur2_0_0 (.sl none 0 (.k 0)))) Ty.bld46 rfl (by simp only [fillV, hcl34]; rfl)) ?_;refine qx (E_bs1 (t := Snap.o) (u := .agg (Snap.cells (Snap.mk x1.rec_.seq r2.1 []) ur2_0_0 (.sl none 0 (.k 0)))) (x := (Snap.mk x1.rec_.seq r2.1 [])) Tryz.underlying34 Ty.row46 rfl ⟨ur2_0_0, .sl none 0 (.k 0), rfl, hfr2_0_0, ⟨_, rfl, .inl ⟨rfl, rfl, rfl⟩⟩⟩ rfl rfl hS8) ?_;rintro u31 w31 ⟨bs31, hS31⟩;refine Nxt.frz (Frz.le.refl _) hS31.agree ?_;refine ql (insSnap_ok (hS31.lendL [4, 0] (by decide)) hl32) ?_;rintro u33 w33 ⟨bs33, hT33⟩;have hS33 := hS31.backL [4, 0] [1, 2, 3, 5, 6, 7] (by decide) (by decide) hT33;refine Nxt.frz (Frz.le.refl _) hS33.agree ?_;refine qc ?_;refine qf Ty.field38_1 ?_;refine qu (E_bst (c := [u33]) 3 ([.i .i64 x0.seq, u33, v0_2, v0_3, v0_4]) rfl rfl hS33 rfl (hS33.dpLn (k := 0) rfl).cells Ty.size34 (by simp only [List.all_cons, List.all_nil, List.all_append, (hS33.dpLn (k := 0) rfl).one]; rfl) rfl rfl) ?_;rintro _ w35 hS35;refine Nxt.frz (Frz.le.refl _) hS35.agree ?_;refine W_nil ?_;exact N_join _ ⟨l32, H, ⟨Fr2, u33, bs33, rfl, (Frz.le.refl _), hS35.pick [2, 3, 4, 5, 6, 0] (by decide)⟩⟩ ⟨rfl, rfl, rfl, trivial⟩
   ·rw [if_f hc30] at H;refine C_skip ?_;exact N_join _ ⟨x0.snaps, H, ⟨Fr2, v0_1, bsv0_1, rfl, (Frz.le.refl _), hS8.pick [1, 2, 4, 5, 6, 3] (by decide)⟩⟩ ⟨rfl, rfl, rfl, trivial⟩
  ·rintro E w9 ⟨l10, H, F9, u11, bs13, rfl, le9, hS9⟩;dsimp only [rebuild_snap.k1] at H;refine C_seq ?_;obtain ⟨x14, hx14, H⟩ := bd_some H;obtain ⟨l18, hl18, H⟩ := bd_some H;obtain ⟨x20, hx20, H⟩ := bd_some H;have hb23 := hS9.boxAt 1 rfl;refine C_regionD (G := (F9.hold w9 [gp0])) [0, 1, 2, 3, 4, 5, 6, 7, 8, 9, 10, 11, 12, 13, 14, 15, 16, 17, 18, 19] rfl Ty.mixed (by kernel_rfl) (HB.agree (HB.cons 1 hb23 hS9 rfl HB.nil) hS9.agree) ?_;refine q2 ?_;refine qf Ty.field38_1 ?_;refine qr (O_fld1 Ty.cell34 rfl (hb23.held (HB.cons 1 hb23 hS9 rfl HB.nil) (by simp)) rfl) ?_;refine q3 ?_;refine qf Ty.field38_1 ?_;refine qbq 1 Ty.cell34 hS9 ?_;refine qc ?_;obtain ⟨hp24, hy24⟩ := ix_some hx14;obtain ⟨cs24, hr24, he24⟩ := (hS9.dpNow (k := 5) rfl Snap.sees).el hy24;obtain ⟨ue15_0, ue15_1, rfl, hue15_0, hue15_1⟩ := hr24;replace he24 : Elf _ _ 4 _ _ := he24;have hi24 := he24.ixd;refine qi Tryz.underlying34 Ty.size46 hi24 hp24 ?_;refine qr (O_fld 3 Ty.field46_2 rfl hi24) ?_;obtain ⟨u16, bs16, cs16, he16, hu16, hS16⟩ := hS9.focus Snap.foc 5 rfl (ix_some hx14).2;replace he16 : Elf _ _ 4 _ _ := he16;refine qq (O_ld1 3 Ty.cell44 rfl he16 (by omega) hu16) ?_;refine qf Ty.field53_1 ?_;refine qq (O_bldg 1 (Loc.cells x1.loc) Ty.agg51 Ty.size51 (Nat.zero_lt_succ _) rfl hS16 rfl (fun q u h => sub_at (post := []) rfl h)) ?_;refine qx (E_bs (t := Loc.t) (vs := [.agg (Loc.cells x1.loc)]) (xs := [x1.loc]) Tryz.underlying44 Ty.row51 rfl ⟨rfl, trivial⟩ rfl rfl hS16) ?_;rintro u17 w17 hS17;refine qh 3 hb23 hS17 ?_;refine qx (E_app (t := Loc.t) 1 Tryz.underlying44 Ty.row51 Ty.zk44 rfl rfl hS17 rfl (hS17.rowSrc (k := 0) rfl) hl18) ?_;rintro v19 w19 hS19;refine qh 3 hb23 hS19 ?_;obtain ⟨hp25, hy25⟩ := ix_some hx20;have hi25 := hS19.dpIx (k := 7) rfl (butL_at hy25);refine qi Tryz.underlying34 Ty.size46 hi25 hp25 ?_;obtain ⟨hp26, hy26⟩ := ix_some hx20;have hi26 := hS19.dpIx (k := 7) rfl (butL_at hy26);refine qr (O_fld 3 Ty.field46_2 rfl hi26) ?_;obtain ⟨hp27, hy27⟩ := ix_some hx20;have hi27 := hS19.dpIx (k := 7) rfl (butL_at hy27);have hS28 := hS19.pick [1, 7, 0, 2, 3, 4, 5, 6] (by decide);refine qu (E_fill Snap.foc (r7.1.toNat) rfl rfl hS28 (ix_some hx20).2 (by first | rfl | (show _ = _ * 4 + _; omega)) Ty.size44) ?_;rintro _ w22 ⟨bs22, hS22⟩;refine qh 3 hb23 hS22 ?_;refine qn ?_;refine C_regionD (G := F9) [0, 1, 2, 3, 4, 5, 6, 7, 8, 9, 10, 11, 12, 13] rfl Ty.mixed (by kernel_rfl) hS22.agree ?_;refine q3 ?_;refine qf Ty.field38_0 ?_;refine qbq 3 Ty.cell3 hS22 ?_
   refine qf Ty.field53_0 ?_;refine qf Ty.field49_1 ?_;refine qbq 2 Ty.cell3 hS22 ?_;refine q4 ?_;refine qf Ty.field38_0 ?_;refine qu (E_bst (c := [.i .i64 (if x0.seq < wr ((if 1073741824 < x1.rec_.seq then 1073741824 else x1.rec_.seq) + 1) then wr ((if 1073741824 < x1.rec_.seq then 1073741824 else x1.rec_.seq) + 1) else x0.seq)]) 3 ([.i .i64 (if x0.seq < wr ((if 1073741824 < x1.rec_.seq then 1073741824 else x1.rec_.seq) + 1) then wr ((if 1073741824 < x1.rec_.seq then 1073741824 else x1.rec_.seq) + 1) else x0.seq), u11, v0_2, v0_3, v0_4]) rfl rfl hS22 rfl rfl Ty.size3 rfl rfl rfl) ?_;rintro _ w29 hS29;refine Nxt.frz (Frz.le.refl _) hS29.agree ?_;refine W_nil ?_;obtain rfl := oi H;refine N_done rfl rfl ?_;exact ⟨F9, u11, bs22, v0_2, bsv0_2, v0_3, bsv0_3, rfl, hS29.pick [3, 0, 4, 5, 6] (by decide)⟩
def rebuild_exp.k1 (x0 : Catalog) (x1 : Found) (r5 : Int × Bool) (l8 : List Exp) : Option Catalog :=
  bd (ix l8 r5.1) fun x12 =>
  bd (app (α := Loc) x12.locs [x1.loc]) fun l16 =>
  bd (ix l8 r5.1) fun x18 =>
  some (Catalog.mk (if x0.seq < wr ((if 1073741824 < x1.rec_.seq then 1073741824 else x1.rec_.seq) + 1) then wr ((if 1073741824 < x1.rec_.seq then 1073741824 else x1.rec_.seq) + 1) else x0.seq) x0.snaps x0.chunks (l8.set r5.1.toNat (Exp.mk x18.seq x18.of l16)) x0.vols)
def rebuild_exp (x0 : Catalog) (x1 : Found) : Option Catalog :=
  if decide ((x1.rec_.data.length : Int) ≠ 4) then
    some x0
  else
    bd (bin_Get x1.rec_.data 0 4) fun r3 =>
    bd (slices_BinarySearchFunc_api_Exp_api_Exp_int_rebuild_exp_1 x0.exps x1.rec_.seq) fun r5 =>
    if (!r5.2) then
      bd (insD x0.exps r5.1 [(Exp.mk x1.rec_.seq r3.1 [])]) fun l30 =>
      rebuild_exp.k1 x0 x1 r5 l30
    else
      rebuild_exp.k1 x0 x1 r5 x0.exps
set_option maxRecDepth 100000 in
theorem rebuild_exp_ok {F : Frz} {w : Hp} {X : List Nat} {x0 : Catalog} {x1 : Found} {r : Catalog} {gp0 : Nat} {v0_1 : Val} {bsv0_1 : List Nat} {v0_2 : Val} {bsv0_2 : List Nat} {v0_3 : Val} {bsv0_3 : List Nat} {v0_4 : Val} {v1_0 : Val} (hS : St X w F F [.box gp0 [.i .i64 x0.seq, v0_1, v0_2, v0_3, v0_4], .dp Snap.o bsv0_1 v0_1 x0.snaps, .dp Chunk.o bsv0_2 v0_2 x0.chunks, .dp Exp.o bsv0_3 v0_3 x0.exps, .row Vol.t v0_4 x0.vols] w) (h1_0 : SlF tB F v1_0 x1.rec_.data) (H : rebuild_exp x0 x1 = some r) : Ret Tryz.prog KK 45 [pl gp0 0, .agg (Found.cells x1 v1_0)] w fun v w' => ∃ (F' : Frz) (z0_1 : Val) (bsz0_1 : List Nat) (z0_2 : Val) (bsz0_2 : List Nat) (z0_3 : Val) (bsz0_3 : List Nat), v = .tup [] ∧ St X w F F' [.box gp0 [.i .i64 r.seq, z0_1, z0_2, z0_3, v0_4], .dp Snap.o bsz0_1 z0_1 r.snaps, .dp Chunk.o bsz0_2 z0_2 r.chunks, .dp Exp.o bsz0_3 z0_3 r.exps, .row Vol.t v0_4 r.vols] w' := by
 refine qa2 Tryz.func45 ?_;dsimp only [rebuild_exp] at H;refine qs ?_;refine xm (E_bx (cs := [.i .i64 x1.rec_.kind, .i .i64 x1.rec_.seq, v1_0, .i .i64 x1.loc.vol, .i .i64 x1.loc.file, .i .i64 x1.loc.off, .i .i64 x1.loc.len]) rfl rfl (by simp only [List.all_cons, List.all_nil, List.all_append, h1_0.ln.one]; rfl) hS) ?_;rintro _ w1 ⟨g1, rfl, hS1⟩;refine qn ?_;refine C_seq ?_;refine qs ?_;refine qf Ty.field53_0 ?_;refine qf Ty.field49_2 ?_;refine qb 0 Ty.cell47 hS1 ?_;refine qr (O_len Tryz.underlying47 rfl h1_0.ln) ?_;refine qr (O_bin rfl rfl bI_neq) ?_;refine qn ?_;refine C_cond rfl (fun hc2 => ?_) (fun hc2 => ?_)
 ·rw [if_t hc2] at H;obtain rfl := oi H;refine C_ret rfl rfl ?_;exact ⟨F, v0_1, bsv0_1, v0_2, bsv0_2, v0_3, bsv0_3, rfl, hS1.pick [1, 2, 3, 4, 5] (by decide)⟩
 ·rw [if_f hc2] at H;refine qk ?_;refine C_seq ?_;obtain ⟨r3, hr3, H⟩ := bd_some H;refine qd ?_;refine qf Ty.field53_0 ?_;refine qf Ty.field49_2 ?_;refine qb 0 Ty.cell47 hS1 ?_;refine lm (bin_Get_ok hS1.good h1_0 hr3) ?_;rintro v4 w4 ⟨Fr3, rfl, hT4⟩;have hS4 := hS1.lent hT4;refine q4 ?_;refine q2 ?_;refine qm ?_;refine C_seq ?_;obtain ⟨r5, hr5, H⟩ := bd_some H;refine C_regionD (G := F) [0, 1, 2, 3, 4, 5, 6, 7, 8, 9, 10, 11, 12] rfl Ty.mixed (by kernel_rfl) hS4.agree ?_;refine q2 ?_;refine qf Ty.field38_3 ?_;refine qbq 1 Ty.cell36 hS4 ?_;refine qf Ty.field53_0 ?_;refine qf Ty.field49_1 ?_;refine qbq 0 Ty.cell3 hS4 ?_;refine ql (slices_BinarySearchFunc_api_Exp_api_Exp_int_rebuild_exp_1_ok (Gd.now hS4.wf) (hS4.dpNow (k := 4) rfl Exp.sees) hr5) ?_;rintro v6 w6 ⟨Fr5, rfl, hT6⟩;have hS6 := hS4.lent hT6;refine Nxt.frz (Frz.le.refl _) hS6.agree ?_;refine q4 ?_;refine qm ?_;refine C_seq_join (fun E wq => ∃ l8 : List Exp, rebuild_exp.k1 x0 x1 r5 l8 = some r ∧ ∃ (F7 : Frz) (u9 : Val) (bs11 : List Nat), E = [(0, pl gp0 0), (3, pl g1 0), (7, .i .i64 r5.1)] ∧ F.le F7 ∧ St X w F F7 [.box g1 [.i .i64 x1.rec_.kind, .i .i64 x1.rec_.seq, v1_0, .i .i64 x1.loc.vol, .i .i64 x1.loc.file, .i .i64 x1.loc.off, .i .i64 x1.loc.len], .box gp0 [.i .i64 x0.seq, v0_1, v0_2, u9, v0_4], .dp Snap.o bsv0_1 v0_1 x0.snaps, .dp Chunk.o bsv0_2 v0_2 x0.chunks, .row Vol.t v0_4 x0.vols, .dp Exp.o bs11 u9 l8] wq) ?_ ?_
  ·refine qs ?_;refine qc ?_;refine qm ?_;refine C_cond rfl (fun hc28 => ?_) (fun hc28 => ?_)
   ·rw [if_t hc28] at H;obtain ⟨l30, hl30, H⟩ := bd_some H;refine C_regionD (G := F) [0, 1, 2, 3, 4, 5, 6, 7, 8, 9, 10, 11, 12, 13, 14, 15] rfl Ty.mixed (by kernel_rfl) hS6.agree ?_;refine q3 ?_;refine qf Ty.field38_3 ?_;refine qbq 1 Ty.cell36 hS6 ?_;refine qc ?_;refine qf Ty.field53_0 ?_;refine qf Ty.field49_1 ?_;refine qbq 0 Ty.cell3 hS6 ?_;refine qc ?_;refine W_c (v := .agg (Exp.cells (Exp.mk x1.rec_.seq r3.1 []) (.sl none 0 (.k 0)))) rfl rfl rfl rfl (fun _ => rfl) ?_;refine qx (E_bs1 (t := Exp.o) (u := .agg (Exp.cells (Exp.mk x1.rec_.seq r3.1 []) (.sl none 0 (.k 0)))) (x := (Exp.mk x1.rec_.seq r3.1 [])) Tryz.underlying36 Ty.row55 rfl ⟨.sl none 0 (.k 0), rfl, ⟨_, rfl, .inl ⟨rfl, rfl, rfl⟩⟩⟩ rfl rfl hS6) ?_;rintro u29 w29 ⟨bs29, hS29⟩;refine Nxt.frz (Frz.le.refl _) hS29.agree ?_;refine ql (insExp_ok (hS29.lendL [5, 0] (by decide)) hl30) ?_;rintro u31 w31 ⟨bs31, hT31⟩;have hS31 := hS29.backL [5, 0] [1, 2, 3, 4, 6] (by decide) (by decide) hT31;refine Nxt.frz (Frz.le.refl _) hS31.agree ?_;refine qc ?_;refine qf Ty.field38_3 ?_;refine qu (E_bst (c := [u31]) 2 ([.i .i64 x0.seq, v0_1, v0_2, u31, v0_4]) rfl rfl hS31 rfl (hS31.dpLn (k := 0) rfl).cells Ty.size36 (by simp only [List.all_cons, List.all_nil, List.all_append, (hS31.dpLn (k := 0) rfl).one]; rfl) rfl rfl) ?_;rintro _ w32 hS32;refine Nxt.frz (Frz.le.refl _) hS32.agree ?_;refine W_nil ?_;exact N_join _ ⟨l30, H, ⟨F, u31, bs31, rfl, (Frz.le.refl _), hS32.pick [1, 2, 3, 4, 5, 0] (by decide)⟩⟩ ⟨rfl, rfl, rfl, trivial⟩
   ·rw [if_f hc28] at H;refine C_skip ?_;exact N_join _ ⟨x0.exps, H, ⟨F, v0_3, bsv0_3, rfl, (Frz.le.refl _), hS6.pick [0, 1, 2, 3, 5, 4] (by decide)⟩⟩ ⟨rfl, rfl, rfl, trivial⟩
  ·rintro E w7 ⟨l8, H, F7, u9, bs11, rfl, le7, hS7⟩;dsimp only [rebuild_exp.k1] at H;refine C_seq ?_;obtain ⟨x12, hx12, H⟩ := bd_some H;obtain ⟨l16, hl16, H⟩ := bd_some H;obtain ⟨x18, hx18, H⟩ := bd_some H;have hb21 := hS7.boxAt 1 rfl;refine C_regionD (G := (F7.hold w7 [gp0])) [0, 1, 2, 3, 4, 5, 6, 7, 8, 9, 10, 11, 12, 13, 14, 15, 16, 17, 18, 19] rfl Ty.mixed (by kernel_rfl) (HB.agree (HB.cons 1 hb21 hS7 rfl HB.nil) hS7.agree) ?_;refine q2 ?_;refine qf Ty.field38_3 ?_;refine qr (O_fld1 Ty.cell36 rfl (hb21.held (HB.cons 1 hb21 hS7 rfl HB.nil) (by simp)) rfl) ?_;refine q3 ?_;refine qf Ty.field38_3 ?_;refine qbq 1 Ty.cell36 hS7 ?_;refine qc ?_;obtain ⟨hp22, hy22⟩ := ix_some hx12;obtain ⟨cs22, hr22, he22⟩ := (hS7.dpNow (k := 5) rfl Exp.sees).el hy22;obtain ⟨ue13_0, rfl, hue13_0⟩ := hr22;replace he22 : Elf _ _ 3 _ _ := he22;have hi22 := he22.ixd;refine qi Tryz.underlying36 Ty.size55 hi22 hp22 ?_;refine qr (O_fld 2 Ty.field55_2 rfl hi22) ?_;obtain ⟨u14, bs14, cs14, he14, hu14, hS14⟩ := hS7.focus Exp.foc 5 rfl (ix_some hx12).2;replace he14 : Elf _ _ 3 _ _ := he14;refine qq (O_ld1 2 Ty.cell44 rfl he14 (by omega) hu14) ?_;refine qf Ty.field53_1 ?_;refine qq (O_bldg 1 (Loc.cells x1.loc) Ty.agg51 Ty.size51 (Nat.zero_lt_succ _) rfl hS14 rfl (fun q u h => sub_at (post := []) rfl h)) ?_;refine qx (E_bs (t := Loc.t) (vs := [.agg (Loc.cells x1.loc)]) (xs := [x1.loc]) Tryz.underlying44 Ty.row51 rfl ⟨rfl, trivial⟩ rfl rfl hS14) ?_;rintro u15 w15 hS15;refine qh 3 hb21 hS15 ?_;refine qx (E_app (t := Loc.t) 1 Tryz.underlying44 Ty.row51 Ty.zk44 rfl rfl hS15 rfl (hS15.rowSrc (k := 0) rfl) hl16) ?_;rintro v17 w17 hS17;refine qh 3 hb21 hS17 ?_;obtain ⟨hp23, hy23⟩ := ix_some hx18;have hi23 := hS17.dpIx (k := 7) rfl (butL_at hy23);refine qi Tryz.underlying36 Ty.size55 hi23 hp23 ?_;obtain ⟨hp24, hy24⟩ := ix_some hx18;have hi24 := hS17.dpIx (k := 7) rfl (butL_at hy24);refine qr (O_fld 2 Ty.field55_2 rfl hi24) ?_;obtain ⟨hp25, hy25⟩ := ix_some hx18;have hi25 := hS17.dpIx (k := 7) rfl (butL_at hy25);have hS26 := hS17.pick [1, 7, 0, 2, 3, 4, 5, 6] (by decide);refine qu (E_fill Exp.foc (r5.1.toNat) rfl rfl hS26 (ix_some hx18).2 (by first | rfl | (show _ = _ * 3 + _; omega)) Ty.size44) ?_;rintro _ w20 ⟨bs20, hS20⟩;refine qh 3 hb21 hS20 ?_;refine qn ?_;refine C_regionD (G := F7) [0, 1, 2, 3, 4, 5, 6, 7, 8, 9, 10, 11, 12, 13] rfl Ty.mixed (by kernel_rfl) hS20.agree ?_;refine q3 ?_;refine qf Ty.field38_0 ?_;refine qbq 3 Ty.cell3 hS20 ?_;refine qf Ty.field53_0 ?_
   refine qf Ty.field49_1 ?_;refine qbq 2 Ty.cell3 hS20 ?_;refine q4 ?_;refine qf Ty.field38_0 ?_;refine qu (E_bst (c := [.i .i64 (if x0.seq < wr ((if 1073741824 < x1.rec_.seq then 1073741824 else x1.rec_.seq) + 1) then wr ((if 1073741824 < x1.rec_.seq then 1073741824 else x1.rec_.seq) + 1) else x0.seq)]) 3 ([.i .i64 (if x0.seq < wr ((if 1073741824 < x1.rec_.seq then 1073741824 else x1.rec_.seq) + 1) then wr ((if 1073741824 < x1.rec_.seq then 1073741824 else x1.rec_.seq) + 1) else x0.seq), v0_1, v0_2, u9, v0_4]) rfl rfl hS20 rfl rfl Ty.size3 rfl rfl rfl) ?_;rintro _ w27 hS27;refine Nxt.frz (Frz.le.refl _) hS27.agree ?_;refine W_nil ?_;obtain rfl := oi H;refine N_done rfl rfl ?_;exact ⟨F7, v0_1, bsv0_1, v0_2, bsv0_2, u9, bs20, rfl, hS27.pick [3, 4, 5, 0, 6] (by decide)⟩
def manifest_Ids.k1 (l3 : List (List UInt8)) : Option (List (List UInt8)) :=
  bd (sortM cmpT l3) fun r6 =>
  bd (slices_Compact_32_byte_32_byte r6) fun r8 =>
  bd (slices_Clone_32_byte_32_byte r8) fun r9 =>
  some r9
def manifest_Ids.l2 (x0 : Manifest) (rec18 : ((List (List UInt8)) × Int) → Option (List (List UInt8))) : ((List (List UInt8)) × Int) → Option (List (List UInt8))
  | (l14, i17) =>
    if decide (i17 < (x0.parts.length : Int)) then
      bd (ix x0.parts i17) fun x20 =>
      bd (app (α := (List UInt8)) l14 x20.ids) fun l25 =>
      rec18 (l25, wr (i17 + 1))
    else
      manifest_Ids.k1 l14
def manifest_Ids (x0 : Manifest) : Option (List (List UInt8)) :=
  loop (manifest_Ids.l2 x0) ([], 0)
set_option maxRecDepth 100000 in
theorem manifest_Ids_ok {F : Frz} {w : Hp} {x0 : Manifest} {r : (List (List UInt8))} {v0_0 : Val} (hA : Gd F w) (h0_0 : SlF Part.t F v0_0 x0.parts) (H : manifest_Ids x0 = some r) : Ret Tryz.prog KK 148 [.agg (Manifest.cells x0 v0_0)] w fun v w' => ∃ (F' : Frz) (q0 : Val), v = q0 ∧ St [] w F F' [.row tId q0 (r)] w' := by
 refine qa1 Tryz.func148 ?_;have hS := St.start hA;dsimp only [manifest_Ids] at H;refine qs ?_;refine xm (E_bx (cs := [.s x0.name, v0_0]) rfl rfl (by simp only [List.all_cons, List.all_nil, List.all_append, h0_0.ln.one]; rfl) hS) ?_;rintro _ w1 ⟨g1, rfl, hS1⟩;refine qm ?_;refine qs ?_;refine qm ?_;refine C_seq_join (fun E wq => ∃ l3 : List (List UInt8), manifest_Ids.k1 l3 = some r ∧ ∃ (F2 : Frz) (u4 : Val), E = [(3, u4)] ∧ F.le F2 ∧ St [] w F F2 [.row tId u4 l3] wq) ?_ ?_
 ·refine qs ?_;refine qf Ty.field43_1 ?_;refine qb 0 Ty.cell41 hS1 ?_;refine qr (O_len Tryz.underlying41 rfl h0_0.ln) ?_;refine qm ?_;refine C_block ?_;refine C_loopM (fun (s : (List (List UInt8)) × Int) E wq => ∃ (F13 : Frz) (u15 : Val), E = [(3, u15), (7, v0_0), (8, .i .i64 (x0.parts.length : Int)), (9, .i .i64 s.2)] ∧ F.le F13 ∧ St [] w F F13 [.row tId u15 s.1] wq) H ?_ ?_
  ·have hS28 := hS1.nilRow tId;exact ⟨_, ⟨F, (.sl none 0 (.k 0)), rfl, (Frz.le.refl _), hS28.pick [0] (by decide)⟩, ⟨rfl, rfl, rfl, rfl, trivial⟩⟩
  ·rintro rec18 ⟨l14, i17⟩ E w13 hI H
   try dsimp only at hI
   obtain ⟨F13, u15, rfl, le13, hS13⟩ := hI;dsimp only [manifest_Ids.l2] at H;refine qs ?_;refine qr (O_bin rfl rfl bI_lss) ?_;refine qn ?_;refine C_seq ?_;refine C_cond rfl (fun hc19 => ?_) (fun hc19 => ?_)
   ·rw [if_t hc19] at H;refine qk ?_;refine C_seq ?_;refine C_block ?_;refine C_seq ?_;obtain ⟨x20, hx20, H⟩ := bd_some H;refine qd ?_;obtain ⟨hp23, hy23⟩ := ix_some hx20;obtain ⟨cs23, hr23, he23⟩ := (h0_0.mono le13).el hy23;obtain ⟨ue21_0, rfl, hue21_0⟩ := hr23;replace he23 : Elf _ _ 3 _ _ := he23;have hi23 := he23.ixd;refine qi Tryz.underlying41 Ty.size138 hi23 hp23 ?_;refine qr (O_ldg 0 (Part.cells x20 ue21_0) Ty.agg138 Ty.size138 rfl (he23.mono hS13.agree) (by omega) rfl (Nat.le_of_ble_eq_true rfl)) ?_;refine xm (E_alc (cs := [.s [], .i .i64 0, .sl none 0 (.k 0)]) Ty.zero138 rfl hS13) ?_;rintro _ w22 ⟨g22, rfl, hS22⟩;refine um (E_bst (c := [.s x20.path, .i .i64 x20.size, ue21_0]) 0 ([.s x20.path, .i .i64 x20.size, ue21_0]) rfl rfl hS22 rfl rfl Ty.size138 (by simp only [List.all_cons, List.all_nil, List.all_append, hue21_0.ln.one]; rfl) rfl rfl) ?_;rintro _ w24 hS24;refine qn ?_;obtain ⟨l25, hl25, H⟩ := bd_some H;refine qd ?_;refine qc ?_;refine qf Ty.field138_2 ?_;refine qb 0 Ty.cell118 hS24 ?_;refine xm (E_app (t := tId) 1 Tryz.underlying118 Ty.row58 Ty.zk118 rfl rfl hS24 rfl (hue21_0.src hS24.agree) hl25) ?_;rintro v26 w26 hS26;refine qc ?_;refine W_nil ?_;refine N_block ?_;refine N_code ?_;refine qd ?_;refine q2 ?_;refine W_nil ?_;exact N_againM (l25, wr (i17 + 1)) _ H ⟨F13, v26, rfl, le13, hS26.pick [1] (by decide)⟩ ⟨rfl, rfl, rfl, rfl, trivial⟩
   ·rw [if_f hc19] at H;refine C_exit _ rfl ?_;exact N_join _ ⟨l14, H, ⟨F13, u15, rfl, le13, hS13⟩⟩ ⟨rfl, trivial⟩
 ·rintro E w2 ⟨l3, H, F2, u4, rfl, le2, hS2⟩;dsimp only [manifest_Ids.k1] at H;refine C_seq ?_;obtain ⟨r6, hr6, H⟩ := bd_some H;refine qd ?_;refine qc ?_;refine lm (sortIds_ok (hS2.lendRow 0 rfl) hr6) ?_;rintro v7 w7 ⟨Fr6, rfl, hT7⟩;have hS7 := hS2.backRow 0 [] rfl (by decide) (by decide) hT7;have ler6 := hT7.ext;refine qn ?_;refine C_seq ?_;obtain ⟨r8, hr8, H⟩ := bd_some H;obtain ⟨r9, hr9, H⟩ := bd_some H;refine qd ?_;refine qc ?_;refine lm (slices_Compact_32_byte_32_byte_ok (hS7.lendRow 0 rfl) hr8) ?_;rintro ur8_0 w10 ⟨Fr8, _, rfl, hT10⟩;have hS10 := hS7.backRow 0 [] rfl (by decide) (by decide) hT10;have ler8 := hT10.ext;obtain ⟨F11, le11, hf11, hS11⟩ := hS10.freezeR 0 [] rfl (by decide) (by decide);refine lm (slices_Clone_32_byte_32_byte_ok hS11.good hf11 hr9) ?_;rintro ur9_0 w12 ⟨Fr9, _, rfl, hT12⟩;have hS12 := hS11.call hT12;have ler9 := hT12.ext;refine qm ?_;obtain rfl := oi H;refine C_ret rfl rfl ?_;exact ⟨Fr9, ur9_0, rfl, hS12⟩
def rebuild_stays (x0 : Catalog) (x1 : Snap) : Option Bool :=
  bd (slices_ContainsFunc_api_Exp_api_Exp_rebuild_stays_1 x0.exps x1) fun r4 =>
  if r4 then
    some false
  else
    bd (manifest_Ids x1.man) fun r8 =>
    bd (slices_ContainsFunc_32_byte_32_byte_rebuild_stays_2 r8 x0) fun r9 =>
    some (!r9)
set_option maxRecDepth 100000 in
theorem rebuild_stays_ok {F : Frz} {w : Hp} {x0 : Catalog} {x1 : Snap} {r : Bool} {v0_0 : Val} {v0_1 : Val} {v0_2 : Val} {v0_3 : Val} {v1_0 : Val} {v1_1 : Val} (hA : Gd F w) (h0_0 : SlF Snap.t F v0_0 x0.snaps) (h0_1 : SlF Chunk.t F v0_1 x0.chunks) (h0_2 : SlF Exp.t F v0_2 x0.exps) (h0_3 : SlF Vol.t F v0_3 x0.vols) (h1_0 : SlF Part.t F v1_0 x1.man.parts) (h1_1 : SlF Loc.t F v1_1 x1.locs) (H : rebuild_stays x0 x1 = some r) : Ret Tryz.prog KK 96 [.agg (Catalog.cells x0 v0_0 v0_1 v0_2 v0_3), .agg (Snap.cells x1 v1_0 v1_1)] w fun v w' => ∃ (F' : Frz), v = .b r ∧ St [] w F F' [] w' := by
 refine qa2 Tryz.func96 ?_;have hS := St.start hA;dsimp only [rebuild_stays] at H;refine qs ?_;refine xm (E_bx (cs := [.i .i64 x0.seq, v0_0, v0_1, v0_2, v0_3]) rfl rfl (by simp only [List.all_cons, List.all_nil, List.all_append, h0_0.ln.one, h0_1.ln.one, h0_2.ln.one, h0_3.ln.one]; rfl) hS) ?_;rintro _ w1 ⟨g1, rfl, hS1⟩;refine xm (E_bx (cs := [.i .i64 x1.seq, .s x1.man.name, v1_0, v1_1]) rfl rfl (by simp only [List.all_cons, List.all_nil, List.all_append, h1_0.ln.one, h1_1.ln.one]; rfl) hS1) ?_;rintro _ w2 ⟨g2, rfl, hS2⟩;refine qm ?_;refine C_seq ?_;refine C_seq ?_;obtain ⟨F3, le3, hbx3, hS3⟩ := hS2.freezeB 0 [1] rfl (by decide) (by decide);obtain ⟨r4, hr4, H⟩ := bd_some H;refine qd ?_;refine qf Ty.field38_3 ?_;refine qb 0 Ty.cell36 hS3 ?_;refine qc ?_;refine lm (slices_ContainsFunc_api_Exp_api_Exp_rebuild_stays_1_ok hS3.good (h0_2.mono le3) (h1_0.mono le3) (h1_1.mono le3) hbx3 hr4) ?_;rintro v5 w5 ⟨Fr4, rfl, hT5⟩;have hS5 := hS3.lent hT5;refine qn ?_;refine C_cond rfl (fun hc6 => ?_) (fun hc6 => ?_)
 ·rw [if_t hc6] at H;refine qs ?_;refine qm ?_;obtain rfl := oi H;refine C_ret rfl rfl ?_;exact ⟨F3, rfl, hS5.pick [] (by decide)⟩
 ·rw [if_f hc6] at H;refine qk ?_;refine C_seq ?_;obtain ⟨F7, le7, hbx7, hS7⟩ := hS5.freezeB 0 [] rfl (by decide) (by decide);obtain ⟨r8, hr8, H⟩ := bd_some H;obtain ⟨r9, hr9, H⟩ := bd_some H;refine qd ?_;refine qf Ty.field46_1 ?_;refine qr (O_fldg (Manifest.cells x1.man v1_0) Ty.agg43 Ty.size43 (Nat.zero_lt_succ _) rfl (hbx3.mono (hS7.agree.le le7)) (fun q u h => sub_at (post := [v1_1]) rfl h)) ?_;refine lm (manifest_Ids_ok hS7.good (h1_0.mono (le3.trans le7)) hr8) ?_;rintro ur8_0 w10 ⟨Fr8, _, rfl, hT10⟩;have hS10 := hS7.call hT10;have ler8 := hT10.ext;refine qc ?_;refine lm (slices_ContainsFunc_32_byte_32_byte_rebuild_stays_2_ok (Gd.now hS10.wf) (hS10.rowNow (k := 0) rfl) (h0_0.mono (hS10.agree.le ((le3.trans le7).trans ler8))) (h0_1.mono (hS10.agree.le ((le3.trans le7).trans ler8))) (h0_2.mono (hS10.agree.le ((le3.trans le7).trans ler8))) (h0_3.mono (hS10.agree.le ((le3.trans le7).trans ler8))) (hbx7.mono (hS10.agree.le ler8)) hr9) ?_;rintro v11 w11 ⟨Fr9, rfl, hT11⟩;have hS11 := hS10.lent hT11;refine qc ?_;refine qm ?_;obtain rfl := oi H;refine C_ret rfl rfl ?_;exact ⟨Fr8, rfl, hS11.pick [] (by decide)⟩
def rebuild_snaps.k1 (l3 : List Snap) : Option (List Snap) :=
  some l3
def rebuild_snaps.k3 (i10 : Int) (rec11 : ((List Snap) × Int) → Option (List Snap)) (l14 : List Snap) : Option (List Snap) :=
  rec11 (l14, wr (i10 + 1))
def rebuild_snaps.l2 (x0 : Catalog) (rec11 : ((List Snap) × Int) → Option (List Snap)) : ((List Snap) × Int) → Option (List Snap)
  | (l7, i10) =>
    if decide (i10 < (x0.snaps.length : Int)) then
      bd (ix x0.snaps i10) fun x17 =>
      bd (rebuild_stays x0 x17) fun r22 =>
      if r22 then
        bd (slices_DeleteFunc_api_Snap_api_Snap_rebuild_snaps_1 l7 x17) fun r27 =>
        bd (app (α := Snap) r27 [x17]) fun l28 =>
        rebuild_snaps.k3 i10 rec11 l28
      else
        rebuild_snaps.k3 i10 rec11 l7
    else
      rebuild_snaps.k1 l7
def rebuild_snaps (x0 : Catalog) : Option (List Snap) :=
  loop (rebuild_snaps.l2 x0) ([], 0)
set_option maxRecDepth 100000 in
theorem rebuild_snaps_ok {F : Frz} {w : Hp} {X : List Nat} {x0 : Catalog} {r : (List Snap)} {v0_0 : Val} {v0_1 : Val} {v0_2 : Val} {v0_3 : Val} (hS : St X w F F [.row Snap.t v0_0 x0.snaps, .row Chunk.t v0_1 x0.chunks, .row Exp.t v0_2 x0.exps, .row Vol.t v0_3 x0.vols] w) (H : rebuild_snaps x0 = some r) : Ret Tryz.prog KK 46 [.agg (Catalog.cells x0 v0_0 v0_1 v0_2 v0_3)] w fun v w' => ∃ (F' : Frz) (q0 : Val), v = q0 ∧ St X w F F' [.row Snap.t q0 (r), .row Snap.t v0_0 x0.snaps, .row Chunk.t v0_1 x0.chunks, .row Exp.t v0_2 x0.exps, .row Vol.t v0_3 x0.vols] w' := by
 refine qa1 Tryz.func46 ?_;dsimp only [rebuild_snaps] at H;refine qs ?_;refine xm (E_bx (cs := [.i .i64 x0.seq, v0_0, v0_1, v0_2, v0_3]) rfl rfl (by simp only [List.all_cons, List.all_nil, List.all_append, (hS.rowLn (k := 0) rfl).one, (hS.rowLn (k := 1) rfl).one, (hS.rowLn (k := 2) rfl).one, (hS.rowLn (k := 3) rfl).one]; rfl) hS) ?_;rintro _ w1 ⟨g1, rfl, hS1⟩;refine qm ?_;refine qs ?_;refine qm ?_;refine C_seq_join (fun E wq => ∃ l3 : List Snap, rebuild_snaps.k1 l3 = some r ∧ ∃ (F2 : Frz) (u4 : Val), E = [(3, u4)] ∧ F.le F2 ∧ St X w F F2 [.row Snap.t v0_0 x0.snaps, .row Chunk.t v0_1 x0.chunks, .row Exp.t v0_2 x0.exps, .row Vol.t v0_3 x0.vols, .row Snap.t u4 l3] wq) ?_ ?_
 ·refine qs ?_;refine qf Ty.field38_1 ?_;refine qb 0 Ty.cell34 hS1 ?_;refine qr (O_len Tryz.underlying34 rfl (hS1.rowLn (k := 1) rfl)) ?_;refine qm ?_;refine C_block ?_;refine C_loopM (fun (s : (List Snap) × Int) E wq => ∃ (F6 : Frz) (u8 : Val), E = [(1, pl g1 0), (3, u8), (7, v0_0), (8, .i .i64 (x0.snaps.length : Int)), (9, .i .i64 s.2)] ∧ F.le F6 ∧ St X w F F6 [.box g1 [.i .i64 x0.seq, v0_0, v0_1, v0_2, v0_3], .row Snap.t v0_0 x0.snaps, .row Chunk.t v0_1 x0.chunks, .row Exp.t v0_2 x0.exps, .row Vol.t v0_3 x0.vols, .row Snap.t u8 s.1] wq) H ?_ ?_
  ·have hS32 := hS1.nilRow Snap.t;exact ⟨_, ⟨F, (.sl none 0 (.k 0)), rfl, (Frz.le.refl _), hS32.pick [1, 2, 3, 4, 5, 0] (by decide)⟩, ⟨rfl, rfl, rfl, rfl, rfl, trivial⟩⟩
  ·rintro rec11 ⟨l7, i10⟩ E w6 hI H
   try dsimp only at hI
   obtain ⟨F6, u8, rfl, le6, hS6⟩ := hI;dsimp only [rebuild_snaps.l2] at H;refine qs ?_;refine qr (O_bin rfl rfl bI_lss) ?_;refine qn ?_;refine C_seq ?_;refine C_cond rfl (fun hc12 => ?_) (fun hc12 => ?_)
   ·rw [if_t hc12] at H;refine qk ?_;refine C_seq_join (fun E wq => ∃ l14 : List Snap, rebuild_snaps.k3 i10 rec11 l14 = some r ∧ ∃ (F13 : Frz) (u15 : Val), E = [(1, pl g1 0), (3, u15), (7, v0_0), (8, .i .i64 (x0.snaps.length : Int)), (9, .i .i64 i10)] ∧ F6.le F13 ∧ St X w F F13 [.box g1 [.i .i64 x0.seq, v0_0, v0_1, v0_2, v0_3], .row Snap.t v0_0 x0.snaps, .row Chunk.t v0_1 x0.chunks, .row Exp.t v0_2 x0.exps, .row Vol.t v0_3 x0.vols, .row Snap.t u15 l14] wq) ?_ ?_
    ·refine C_block ?_;refine C_seq ?_;obtain ⟨x17, hx17, H⟩ := bd_some H;refine qd ?_;obtain ⟨hp20, hy20⟩ := ix_some hx17;obtain ⟨cs20, hr20, he20⟩ := hS6.rowAt (k := 1) rfl hy20;obtain ⟨ue18_0, ue18_1, rfl, hue18_0, hue18_1⟩ := hr20;replace he20 : Elf _ _ 4 _ _ := he20;have hi20 := he20.ixd;refine qi Tryz.underlying34 Ty.size46 hi20 hp20 ?_;refine qr (O_ldg 0 (Snap.cells x17 ue18_0 ue18_1) Ty.agg46 Ty.size46 rfl he20 (by omega) rfl (Nat.le_of_ble_eq_true rfl)) ?_;refine xm (E_alc (cs := [.i .i64 0, .s [], .sl none 0 (.k 0), .sl none 0 (.k 0)]) Ty.zero46 rfl hS6) ?_;rintro _ w19 ⟨g19, rfl, hS19⟩;refine um (E_bst (c := [.i .i64 x17.seq, .s x17.man.name, ue18_0, ue18_1]) 0 ([.i .i64 x17.seq, .s x17.man.name, ue18_0, ue18_1]) rfl rfl hS19 rfl rfl Ty.size46 (by simp only [List.all_cons, List.all_nil, List.all_append, hue18_0.ln.one, hue18_1.ln.one]; rfl) rfl rfl) ?_;rintro _ w21 hS21;refine qn ?_;refine C_seq ?_;obtain ⟨r22, hr22, H⟩ := bd_some H;refine qd ?_;refine qr (O_bldg 1 (Catalog.cells x0 v0_0 v0_1 v0_2 v0_3) Ty.agg38 Ty.size38 (Nat.zero_lt_succ _) rfl hS21 rfl (fun q u h => sub_at (post := []) rfl h)) ?_;refine qr (O_bldg 0 (Snap.cells x17 ue18_0 ue18_1) Ty.agg46 Ty.size46 (Nat.zero_lt_succ _) rfl hS21 rfl (fun q u h => sub_at (post := []) rfl h)) ?_;refine lm (rebuild_stays_ok (Gd.now hS21.wf) (hS21.rowNow (k := 2) rfl) (hS21.rowNow (k := 3) rfl) (hS21.rowNow (k := 4) rfl) (hS21.rowNow (k := 5) rfl) (hue18_0.mono hS21.agree) (hue18_1.mono hS21.agree) hr22) ?_;rintro v23 w23 ⟨Fr22, rfl, hT23⟩;have hS23 := hS21.lent hT23;refine qn ?_;refine C_cond rfl (fun hc24 => ?_) (fun hc24 => ?_)
     ·rw [if_t hc24] at H;obtain ⟨F25, le25, hbx25, hS25⟩ := hS23.freezeB 0 [1, 2, 3, 4, 5, 6] rfl (by decide) (by decide);obtain ⟨r27, hr27, H⟩ := bd_some H;obtain ⟨l28, hl28, H⟩ := bd_some H;refine C_regionD (G := F25) [0, 1, 3, 4, 2, 5, 6] rfl Ty.mixed (by kernel_rfl) hS25.agree ?_;refine q2 ?_;refine qr (O_fldg (Snap.cells x17 ue18_0 ue18_1) Ty.agg46 Ty.size46 (Nat.zero_lt_succ _) rfl hbx25 (fun q u h => sub_at (post := []) rfl h)) ?_;refine qx (E_bs (t := Snap.t) (vs := [.agg (Snap.cells x17 ue18_0 ue18_1)]) (xs := [x17]) Tryz.underlying34 Ty.row46 rfl ⟨⟨ue18_0, ue18_1, rfl, (hue18_0.mono le25), (hue18_1.mono le25)⟩, trivial⟩ rfl rfl hS25) ?_;rintro u26 w26 hS26;refine Nxt.frz (Frz.le.refl _) hS26.agree ?_;refine ql (slices_DeleteFunc_api_Snap_api_Snap_rebuild_snaps_1_ok (hS26.lendRow 6 rfl) (hue18_0.mono le25) (hue18_1.mono le25) hbx25 hr27) ?_;rintro ur27_0 w30 ⟨Fr27, _, rfl, hT30⟩;have hS30 := hS26.backRow 6 [0, 1, 2, 3, 4, 5] rfl (by decide) (by decide) hT30;have ler27 := hT30.ext;refine Nxt.frz ler27 hS30.agree ?_;refine qx (E_app (t := Snap.t) 0 Tryz.underlying34 Ty.row46 Ty.zk34 rfl rfl hS30 rfl (hS30.rowSrc (k := 1) rfl) hl28) ?_;rintro v29 w29 hS29;refine Nxt.frz (Frz.le.refl _) hS29.agree ?_;refine qc ?_;refine W_nil ?_;refine N_block ?_;exact N_join _ ⟨l28, H, ⟨Fr27, v29, rfl, (le25.trans ler27), hS29.pick [2, 3, 4, 5, 6, 0] (by decide)⟩⟩ ⟨rfl, rfl, rfl, rfl, rfl, trivial⟩
     ·rw [if_f hc24] at H;refine C_skip ?_;refine N_block ?_;exact N_join _ ⟨l7, H, ⟨F6, u8, rfl, (Frz.le.refl _), hS23.pick [1, 2, 3, 4, 5, 6] (by decide)⟩⟩ ⟨rfl, rfl, rfl, rfl, rfl, trivial⟩
    ·rintro E w13 ⟨l14, H, F13, u15, rfl, le13, hS13⟩;dsimp only [rebuild_snaps.k3] at H;refine qd ?_;refine q2 ?_;refine W_nil ?_;exact N_againM (l14, wr (i10 + 1)) _ H ⟨F13, u15, rfl, (le6.trans le13), hS13⟩ ⟨rfl, rfl, rfl, rfl, rfl, trivial⟩
   ·rw [if_f hc12] at H;refine C_exit _ rfl ?_;exact N_join _ ⟨l7, H, ⟨F6, u8, rfl, le6, hS6.pick [1, 2, 3, 4, 5] (by decide)⟩⟩ ⟨rfl, trivial⟩
 ·rintro E w2 ⟨l3, H, F2, u4, rfl, le2, hS2⟩;dsimp only [rebuild_snaps.k1] at H;refine qs ?_;refine qc ?_;refine qm ?_;obtain rfl := oi H;refine C_ret rfl rfl ?_;exact ⟨F2, u4, rfl, hS2.pick [4, 0, 1, 2, 3] (by decide)⟩
def plan_Sort (x0 : List Loc) : Option (List Loc) :=
  bd (slices_Clone_api_Loc_api_Loc x0) fun r1 =>
  bd (sortM ordLoc r1) fun r3 =>
  bd (slices_Compact_api_Loc_api_Loc r3) fun r5 =>
  bd (slices_Clone_api_Loc_api_Loc r5) fun r6 =>
  some r6
set_option maxRecDepth 100000 in
theorem plan_Sort_ok {F : Frz} {w : Hp} {x0 : List Loc} {r : (List Loc)} {v0 : Val} (hA : Gd F w) (h0 : SlF Loc.t F v0 x0) (H : plan_Sort x0 = some r) : Ret Tryz.prog KK 47 [v0] w fun v w' => ∃ (F' : Frz) (q0 : Val), v = q0 ∧ St [] w F F' [.row Loc.t q0 (r)] w' := by
 refine qa1 Tryz.func47 ?_;have hS := St.start hA;dsimp only [plan_Sort] at H;refine qs ?_;refine qm ?_;refine C_seq ?_;obtain ⟨r1, hr1, H⟩ := bd_some H;refine qd ?_;refine qc ?_;refine lm (slices_Clone_api_Loc_api_Loc_ok hS.good h0 hr1) ?_;rintro ur1_0 w2 ⟨Fr1, _, rfl, hT2⟩;have hS2 := hS.call hT2;have ler1 := hT2.ext;refine qm ?_;refine C_seq ?_;obtain ⟨r3, hr3, H⟩ := bd_some H;refine qd ?_;refine qc ?_;refine lm (sortLoc_ok (hS2.lendRow 0 rfl) hr3) ?_;rintro v4 w4 ⟨Fr3, rfl, hT4⟩;have hS4 := hS2.backRow 0 [] rfl (by decide) (by decide) hT4;have ler3 := hT4.ext;refine qn ?_;refine C_seq ?_;obtain ⟨r5, hr5, H⟩ := bd_some H;obtain ⟨r6, hr6, H⟩ := bd_some H;refine qd ?_;refine qc ?_;refine lm (slices_Compact_api_Loc_api_Loc_ok (hS4.lendRow 0 rfl) hr5) ?_;rintro ur5_0 w7 ⟨Fr5, _, rfl, hT7⟩;have hS7 := hS4.backRow 0 [] rfl (by decide) (by decide) hT7;have ler5 := hT7.ext;refine lm (slices_Clone_api_Loc_api_Loc_ok (Gd.now hS7.wf) (hS7.rowNow (k := 0) rfl) hr6) ?_;rintro ur6_0 w8 ⟨Fr6, _, rfl, hT8⟩;have hS8 := hS7.lentFlat hT8 ⟨fun _ _ _ h => row_flat (t := Loc.t) (fun h => h) h, trivial⟩;refine qm ?_;obtain rfl := oi H;refine C_ret rfl rfl ?_;exact ⟨Fr5, ur6_0, rfl, hS8.pick [0] (by decide)⟩
def rebuild_From.k4 (i26 : Int) (l27 : List Vol) (l35 : List Snap) (l37 : List Chunk) (l39 : List Exp) : Option (Catalog × Int) :=
  bd (catalog_Check (Catalog.mk i26 l35 l37 l39 l27)) fun r40 =>
  if decide (r40 ≠ 0) then
    some ((Catalog.mk 0 [] [] [] []), 1)
  else
    bd (catalog_Twin (Catalog.mk i26 l35 l37 l39 l27)) fun r54 =>
    some (r54, 0)
def rebuild_From.l5 (l17 : List Exp) (i26 : Int) (l27 : List Vol) (l35 : List Snap) (l37 : List Chunk) (rec70 : (Int × (List Exp)) → Option (Catalog × Int)) : (Int × (List Exp)) → Option (Catalog × Int)
  | (i68, l69) =>
    if decide (i68 < (l17.length : Int)) then
      bd (ix l69 i68) fun x72 =>
      bd (plan_Sort x72.locs) fun r74 =>
      rec70 (wr (i68 + 1), (l69.set i68.toNat (Exp.mk x72.seq x72.of r74)))
    else
      rebuild_From.k4 i26 l27 l35 l37 l69
def rebuild_From.k3 (l17 : List Exp) (i26 : Int) (l27 : List Vol) (l35 : List Snap) (l37 : List Chunk) : Option (Catalog × Int) :=
  loop (rebuild_From.l5 l17 i26 l27 l35 l37) (0, l17)
def rebuild_From.l6 (l17 : List Exp) (l20 : List Chunk) (i26 : Int) (l27 : List Vol) (l35 : List Snap) (rec83 : (Int × (List Chunk)) → Option (Catalog × Int)) : (Int × (List Chunk)) → Option (Catalog × Int)
  | (i81, l82) =>
    if decide (i81 < (l20.length : Int)) then
      bd (ix l82 i81) fun x85 =>
      bd (plan_Sort x85.locs) fun r87 =>
      rec83 (wr (i81 + 1), (l82.set i81.toNat (Chunk.mk x85.id x85.staged x85.data r87)))
    else
      rebuild_From.k3 l17 i26 l27 l35 l82
def rebuild_From.k2 (l17 : List Exp) (l20 : List Chunk) (i26 : Int) (l27 : List Vol) (l35 : List Snap) : Option (Catalog × Int) :=
  loop (rebuild_From.l6 l17 l20 i26 l27 l35) (0, l20)
def rebuild_From.l7 (l17 : List Exp) (l20 : List Chunk) (i26 : Int) (l27 : List Vol) (r28 : (List Snap)) (rec96 : (Int × (List Snap)) → Option (Catalog × Int)) : (Int × (List Snap)) → Option (Catalog × Int)
  | (i94, l95) =>
    if decide (i94 < (r28.length : Int)) then
      bd (ix l95 i94) fun x98 =>
      bd (plan_Sort x98.locs) fun r100 =>
      rec96 (wr (i94 + 1), (l95.set i94.toNat (Snap.mk x98.seq x98.man r100)))
    else
      rebuild_From.k2 l17 l20 i26 l27 l95
def rebuild_From.k1 (l17 : List Exp) (l20 : List Chunk) (l23 : List Snap) (i26 : Int) (l27 : List Vol) : Option (Catalog × Int) :=
  bd (rebuild_snaps (Catalog.mk i26 l23 l20 l17 l27)) fun r28 =>
  loop (rebuild_From.l7 l17 l20 i26 l27 r28) (0, r28)
def rebuild_From.k9 (i107 : Int) (rec119 : (Int × (List Exp) × (List Chunk) × (List Snap) × Int × (List Vol)) → Option (Catalog × Int)) (l122 : List Exp) (l125 : List Chunk) (l128 : List Snap) (i131 : Int) (l132 : List Vol) : Option (Catalog × Int) :=
  rec119 (wr (i107 + 1), l122, l125, l128, i131, l132)
def rebuild_From.l8 (x1 : List Found) (rec119 : (Int × (List Exp) × (List Chunk) × (List Snap) × Int × (List Vol)) → Option (Catalog × Int)) : (Int × (List Exp) × (List Chunk) × (List Snap) × Int × (List Vol)) → Option (Catalog × Int)
  | (i107, l108, l111, l114, i117, l118) =>
    if decide (i107 < (x1.length : Int)) then
      bd (ix x1 i107) fun x133 =>
      if decide (x133.rec_.kind = 1) then
        bd (rebuild_chunk (Catalog.mk i117 l114 l111 l108 l118) x133) fun r139 =>
        rebuild_From.k9 i107 rec119 r139.exps r139.chunks r139.snaps r139.seq r139.vols
      else
        if decide (x133.rec_.kind = 2) then
          bd (rebuild_snap (Catalog.mk i117 l114 l111 l108 l118) x133) fun r142 =>
          rebuild_From.k9 i107 rec119 r142.exps r142.chunks r142.snaps r142.seq r142.vols
        else
          if decide (x133.rec_.kind = 3) then
            bd (rebuild_exp (Catalog.mk i117 l114 l111 l108 l118) x133) fun r145 =>
            rebuild_From.k9 i107 rec119 r145.exps r145.chunks r145.snaps r145.seq r145.vols
          else
            rebuild_From.k9 i107 rec119 l108 l111 l114 i117 l118
    else
      rebuild_From.k1 l108 l111 l114 i117 l118
def rebuild_From (x0 : List Vol) (x1 : List Found) : Option (Catalog × Int) :=
  bd (slices_Clone_api_Vol_api_Vol x0) fun r5 =>
  loop (rebuild_From.l8 x1) (0, [], [], [], 0, r5)
set_option maxRecDepth 100000 in
set_option maxHeartbeats 2000000 in
theorem rebuild_From_ok {F : Frz} {w : Hp} {x0 : List Vol} {x1 : List Found} {r : Catalog × Int} {v0 : Val} {v1 : Val} (hA : Gd F w) (h0 : SlF Vol.t F v0 x0) (h1 : SlF Found.t F v1 x1) (H : rebuild_From x0 x1 = some r) : Ret Tryz.prog KK 12 [v0, v1] w fun v w' => ∃ (F' : Frz) (q0_0 : Val) (q0_1 : Val) (q0_2 : Val) (q0_3 : Val), v = .tup [.agg (Catalog.cells r.1 q0_0 q0_1 q0_2 q0_3), .i .i64 r.2] ∧ SlF Snap.t F' q0_0 (r.1.snaps) ∧ SlF Chunk.t F' q0_1 (r.1.chunks) ∧ SlF Exp.t F' q0_2 (r.1.exps) ∧ SlF Vol.t F' q0_3 (r.1.vols) ∧ St [] w F F' [] w' := by
 refine qa2 Tryz.func12 ?_;have hS := St.start hA;dsimp only [rebuild_From] at H;refine qs ?_;refine xm (E_alc (cs := [.i .i64 0, .sl none 0 (.k 0), .sl none 0 (.k 0), .sl none 0 (.k 0), .sl none 0 (.k 0)]) Ty.zero38 rfl hS) ?_;rintro _ w1 ⟨g1, rfl, hS1⟩;have hS2 := hS1.nilDp Snap.o;have hS3 := hS2.nilDp Chunk.o;have hS4 := hS3.nilDp Exp.o;refine qm ?_;refine C_seq ?_;obtain ⟨r5, hr5, H⟩ := bd_some H;refine qd ?_;refine qc ?_;refine lm (slices_Clone_api_Vol_api_Vol_ok hS4.good h0 hr5) ?_;rintro ur5_0 w13 ⟨Fr5, _, rfl, hT13⟩;have hS13 := hS4.call hT13;have ler5 := hT13.ext;have hcl14 := (hS13.rowLn (k := 0) rfl).cells;refine qr (O_build (vs := [(4, ur5_0)]) (v := .agg (Catalog.cells (Catalog.mk 0 [] [] [] r5) (.sl none 0 (.k 0)) (.sl none 0 (.k 0)) (.sl none 0 (.k 0)) ur5_0)) Ty.bld38 rfl (by simp only [fillV, hcl14]; rfl)) ?_;refine xm (E_alc (cs := [.i .i64 0, .sl none 0 (.k 0), .sl none 0 (.k 0), .sl none 0 (.k 0), .sl none 0 (.k 0)]) Ty.zero38 rfl hS13) ?_;rintro _ w6 ⟨g6, rfl, hS6⟩;have hS7 := hS6.nilDp Snap.o;have hS8 := hS7.nilDp Chunk.o;have hS9 := hS8.nilDp Exp.o;refine um (E_bst (c := [.i .i64 0, .sl none 0 (.k 0), .sl none 0 (.k 0), .sl none 0 (.k 0), ur5_0]) 3 ([.i .i64 0, .sl none 0 (.k 0), .sl none 0 (.k 0), .sl none 0 (.k 0), ur5_0]) rfl rfl hS9 rfl rfl Ty.size38 (by simp only [List.all_cons, List.all_nil, List.all_append, (hS9.rowLn (k := 4) rfl).one]; rfl) rfl rfl) ?_;rintro _ w15 hS15;have hS10 := hS15.nilDp Snap.o;have hS11 := hS10.nilDp Chunk.o;have hS12 := hS11.nilDp Exp.o;refine qn ?_;refine C_seq_join (fun E wq => ∃ l17 : List Exp, ∃ l20 : List Chunk, ∃ l23 : List Snap, ∃ i26 : Int, ∃ l27 : List Vol, rebuild_From.k1 l17 l20 l23 i26 l27 = some r ∧ ∃ (F16 : Frz) (u18 : Val) (bs19 : List Nat) (u21 : Val) (bs22 : List Nat) (u24 : Val) (bs25 : List Nat), E = [(4, pl g1 0), (6, pl g6 0)] ∧ Fr5.le F16 ∧ St [] w F F16 [.dp Exp.o bs19 u18 l17, .dp Chunk.o bs22 u21 l20, .dp Snap.o bs25 u24 l23, .box g6 [.i .i64 i26, u24, u21, u18, ur5_0], .row Vol.t ur5_0 l27, .dp Exp.o [] (.sl none 0 (.k 0)) [], .dp Chunk.o [] (.sl none 0 (.k 0)) [], .dp Snap.o [] (.sl none 0 (.k 0)) [], .box g1 [.i .i64 0, (.sl none 0 (.k 0)), (.sl none 0 (.k 0)), (.sl none 0 (.k 0)), .sl none 0 (.k 0)]] wq) ?_ ?_
 ·refine qs ?_;refine qc ?_;refine qr (O_len Tryz.underlying27 rfl h1.ln) ?_;refine qm ?_;refine C_block ?_;refine C_loopM (fun (s : Int × (List Exp) × (List Chunk) × (List Snap) × Int × (List Vol)) E wq => ∃ (F106 : Frz) (u109 : Val) (bs110 : List Nat) (u112 : Val) (bs113 : List Nat) (u115 : Val) (bs116 : List Nat), E = [(4, pl g1 0), (6, pl g6 0), (15, v1), (16, .i .i64 (x1.length : Int)), (17, .i .i64 s.1)] ∧ Fr5.le F106 ∧ St [] w F F106 [.dp Exp.o bs110 u109 s.2.1, .dp Chunk.o bs113 u112 s.2.2.1, .dp Snap.o bs116 u115 s.2.2.2.1, .box g6 [.i .i64 s.2.2.2.2.1, u115, u112, u109, ur5_0], .row Vol.t ur5_0 s.2.2.2.2.2, .dp Exp.o [] (.sl none 0 (.k 0)) [], .dp Chunk.o [] (.sl none 0 (.k 0)) [], .dp Snap.o [] (.sl none 0 (.k 0)) [], .box g1 [.i .i64 0, (.sl none 0 (.k 0)), (.sl none 0 (.k 0)), (.sl none 0 (.k 0)), .sl none 0 (.k 0)]] wq) H ?_ ?_
  ·exact ⟨_, ⟨Fr5, (.sl none 0 (.k 0)), [], (.sl none 0 (.k 0)), [], (.sl none 0 (.k 0)), [], rfl, (Frz.le.refl _), hS12.pick [0, 1, 2, 6, 7, 8, 9, 10, 11] (by decide)⟩, ⟨rfl, rfl, rfl, rfl, rfl, trivial⟩⟩
  ·rintro rec119 ⟨i107, l108, l111, l114, i117, l118⟩ E w106 hI H
   try dsimp only at hI
   obtain ⟨F106, u109, bs110, u112, bs113, u115, bs116, rfl, le106, hS106⟩ := hI;dsimp only [rebuild_From.l8] at H;refine qs ?_;refine qr (O_bin rfl rfl bI_lss) ?_;refine qn ?_;refine C_seq ?_;refine C_cond rfl (fun hc120 => ?_) (fun hc120 => ?_)
   ·rw [if_t hc120] at H;refine qk ?_;refine C_seq_join (fun E wq => ∃ l122 : List Exp, ∃ l125 : List Chunk, ∃ l128 : List Snap, ∃ i131 : Int, ∃ l132 : List Vol, rebuild_From.k9 i107 rec119 l122 l125 l128 i131 l132 = some r ∧ ∃ (F121 : Frz) (u123 : Val) (bs124 : List Nat) (u126 : Val) (bs127 : List Nat) (u129 : Val) (bs130 : List Nat), E = [(4, pl g1 0), (6, pl g6 0), (15, v1), (16, .i .i64 (x1.length : Int)), (17, .i .i64 i107)] ∧ F106.le F121 ∧ St [] w F F121 [.dp Exp.o bs124 u123 l122, .dp Chunk.o bs127 u126 l125, .dp Snap.o bs130 u129 l128, .box g6 [.i .i64 i131, u129, u126, u123, ur5_0], .row Vol.t ur5_0 l132, .dp Exp.o [] (.sl none 0 (.k 0)) [], .dp Chunk.o [] (.sl none 0 (.k 0)) [], .dp Snap.o [] (.sl none 0 (.k 0)) [], .box g1 [.i .i64 0, (.sl none 0 (.k 0)), (.sl none 0 (.k 0)), (.sl none 0 (.k 0)), .sl none 0 (.k 0)]] wq) ?_ ?_
    ·refine C_block ?_;refine C_seq ?_;obtain ⟨x133, hx133, H⟩ := bd_some H;refine qd ?_;obtain ⟨hp136, hy136⟩ := ix_some hx133;obtain ⟨cs136, hr136, he136⟩ := (h1.mono (ler5.trans le106)).el hy136;obtain ⟨ue134_0, rfl, hue134_0⟩ := hr136;replace he136 : Elf _ _ 7 _ _ := he136;have hi136 := he136.ixd;refine qi Tryz.underlying27 Ty.size53 hi136 hp136 ?_;refine qr (O_ldg 0 (Found.cells x133 ue134_0) Ty.agg53 Ty.size53 rfl (he136.mono hS106.agree) (by omega) rfl (Nat.le_of_ble_eq_true rfl)) ?_;refine xm (E_alc (cs := [.i .i64 0, .i .i64 0, .sl none 0 (.k 0), .i .i64 0, .i .i64 0, .i .i64 0, .i .i64 0]) Ty.zero53 rfl hS106) ?_;rintro _ w135 ⟨g135, rfl, hS135⟩;refine um (E_bst (c := [.i .i64 x133.rec_.kind, .i .i64 x133.rec_.seq, ue134_0, .i .i64 x133.loc.vol, .i .i64 x133.loc.file, .i .i64 x133.loc.off, .i .i64 x133.loc.len]) 0 ([.i .i64 x133.rec_.kind, .i .i64 x133.rec_.seq, ue134_0, .i .i64 x133.loc.vol, .i .i64 x133.loc.file, .i .i64 x133.loc.off, .i .i64 x133.loc.len]) rfl rfl hS135 rfl rfl Ty.size53 (by simp only [List.all_cons, List.all_nil, List.all_append, hue134_0.ln.one]; rfl) rfl rfl) ?_;rintro _ w137 hS137;refine qn ?_;refine qs ?_;refine qf Ty.field53_0 ?_;refine qf Ty.field49_0 ?_;refine qb 0 Ty.cell3 hS137 ?_;refine qn ?_;refine C_block ?_;refine qs ?_;refine qr (O_bin rfl rfl bI_eql) ?_;refine qm ?_;refine C_cond rfl (fun hc138 => ?_) (fun hc138 => ?_)
     ·rw [if_t hc138] at H;obtain ⟨r139, hr139, H⟩ := bd_some H;refine qd ?_;refine qr (O_bldg 0 (Found.cells x133 ue134_0) Ty.agg53 Ty.size53 (Nat.zero_lt_succ _) rfl hS137 rfl (fun q u h => sub_at (post := []) rfl h)) ?_;refine lm (rebuild_chunk_ok (x0 := (Catalog.mk i117 l114 l111 l108 l118)) (x1 := x133) (hS137.lendL [4, 3, 2, 1, 5] (by decide)) hue134_0 hr139) ?_;rintro v140 w140 ⟨Fr139, ur139_b0_1, bsr139_b0_1, ur139_b0_2, bsr139_b0_2, ur139_b0_3, bsr139_b0_3, rfl, hT140⟩;have hS140 := hS137.backL [4, 3, 2, 1, 5] [0, 6, 7, 8, 9] (by decide) (by decide) hT140;have ler139 := hT140.ext;refine W_nil ?_;refine N_block ?_;refine N_block ?_;exact N_join _ ⟨r139.exps, r139.chunks, r139.snaps, r139.seq, r139.vols, H, ⟨Fr139, ur139_b0_3, bsr139_b0_3, ur139_b0_2, bsr139_b0_2, ur139_b0_1, bsr139_b0_1, rfl, ler139, hS140.pick [3, 2, 1, 0, 4, 6, 7, 8, 9] (by decide)⟩⟩ ⟨rfl, rfl, rfl, rfl, rfl, trivial⟩
     ·rw [if_f hc138] at H;refine qs ?_;refine qr (O_bin rfl rfl bI_eql) ?_;refine qm ?_;refine C_cond rfl (fun hc141 => ?_) (fun hc141 => ?_)
      ·rw [if_t hc141] at H;obtain ⟨r142, hr142, H⟩ := bd_some H;refine qd ?_;refine qr (O_bldg 0 (Found.cells x133 ue134_0) Ty.agg53 Ty.size53 (Nat.zero_lt_succ _) rfl hS137 rfl (fun q u h => sub_at (post := []) rfl h)) ?_;refine lm (rebuild_snap_ok (x0 := (Catalog.mk i117 l114 l111 l108 l118)) (x1 := x133) (hS137.lendL [4, 3, 2, 1, 5] (by decide)) hue134_0 hr142) ?_;rintro v143 w143 ⟨Fr142, ur142_b0_1, bsr142_b0_1, ur142_b0_2, bsr142_b0_2, ur142_b0_3, bsr142_b0_3, rfl, hT143⟩;have hS143 := hS137.backL [4, 3, 2, 1, 5] [0, 6, 7, 8, 9] (by decide) (by decide) hT143;have ler142 := hT143.ext;refine W_nil ?_;refine N_block ?_;refine N_block ?_;exact N_join _ ⟨r142.exps, r142.chunks, r142.snaps, r142.seq, r142.vols, H, ⟨Fr142, ur142_b0_3, bsr142_b0_3, ur142_b0_2, bsr142_b0_2, ur142_b0_1, bsr142_b0_1, rfl, ler142, hS143.pick [3, 2, 1, 0, 4, 6, 7, 8, 9] (by decide)⟩⟩ ⟨rfl, rfl, rfl, rfl, rfl, trivial⟩
      ·rw [if_f hc141] at H;refine qs ?_;refine qr (O_bin rfl rfl bI_eql) ?_;refine qm ?_;refine C_cond rfl (fun hc144 => ?_) (fun hc144 => ?_)
       ·rw [if_t hc144] at H;obtain ⟨r145, hr145, H⟩ := bd_some H;refine qd ?_;refine qr (O_bldg 0 (Found.cells x133 ue134_0) Ty.agg53 Ty.size53 (Nat.zero_lt_succ _) rfl hS137 rfl (fun q u h => sub_at (post := []) rfl h)) ?_;refine lm (rebuild_exp_ok (x0 := (Catalog.mk i117 l114 l111 l108 l118)) (x1 := x133) (hS137.lendL [4, 3, 2, 1, 5] (by decide)) hue134_0 hr145) ?_;rintro v146 w146 ⟨Fr145, ur145_b0_1, bsr145_b0_1, ur145_b0_2, bsr145_b0_2, ur145_b0_3, bsr145_b0_3, rfl, hT146⟩;have hS146 := hS137.backL [4, 3, 2, 1, 5] [0, 6, 7, 8, 9] (by decide) (by decide) hT146;have ler145 := hT146.ext;refine W_nil ?_;refine N_block ?_;refine N_block ?_;exact N_join _ ⟨r145.exps, r145.chunks, r145.snaps, r145.seq, r145.vols, H, ⟨Fr145, ur145_b0_3, bsr145_b0_3, ur145_b0_2, bsr145_b0_2, ur145_b0_1, bsr145_b0_1, rfl, ler145, hS146.pick [3, 2, 1, 0, 4, 6, 7, 8, 9] (by decide)⟩⟩ ⟨rfl, rfl, rfl, rfl, rfl, trivial⟩
       ·rw [if_f hc144] at H;refine C_skip ?_;refine N_block ?_;refine N_block ?_;exact N_join _ ⟨l108, l111, l114, i117, l118, H, ⟨F106, u109, bs110, u112, bs113, u115, bs116, rfl, (Frz.le.refl _), hS137.pick [1, 2, 3, 4, 5, 6, 7, 8, 9] (by decide)⟩⟩ ⟨rfl, rfl, rfl, rfl, rfl, trivial⟩
    ·rintro E w121 ⟨l122, l125, l128, i131, l132, H, F121, u123, bs124, u126, bs127, u129, bs130, rfl, le121, hS121⟩;dsimp only [rebuild_From.k9] at H;refine qd ?_;refine q2 ?_;refine W_nil ?_;exact N_againM (wr (i107 + 1), l122, l125, l128, i131, l132) _ H ⟨F121, u123, bs124, u126, bs127, u129, bs130, rfl, (le106.trans le121), hS121⟩ ⟨rfl, rfl, rfl, rfl, rfl, trivial⟩
   ·rw [if_f hc120] at H;refine C_exit _ rfl ?_;exact N_join _ ⟨l108, l111, l114, i117, l118, H, ⟨F106, u109, bs110, u112, bs113, u115, bs116, rfl, le106, hS106⟩⟩ ⟨rfl, rfl, trivial⟩
 ·rintro E w16 ⟨l17, l20, l23, i26, l27, H, F16, u18, bs19, u21, bs22, u24, bs25, rfl, le16, hS16⟩;dsimp only [rebuild_From.k1] at H;refine C_seq ?_;obtain ⟨r28, hr28, H⟩ := bd_some H;refine qd ?_;refine qr (O_bldg 3 (Catalog.cells (Catalog.mk i26 l23 l20 l17 l27) u24 u21 u18 ur5_0) Ty.agg38 Ty.size38 (Nat.zero_lt_succ _) rfl hS16 rfl (fun q u h => sub_at (post := []) rfl h)) ?_;obtain ⟨F30, le30, hS30⟩ := St.flatD Snap.sees 2 hS16 rfl;obtain ⟨F31, le31, hS31⟩ := St.flatD Chunk.sees 1 hS30 rfl;obtain ⟨F32, le32, hS32⟩ := St.flatD Exp.sees 0 hS31 rfl;refine lm (rebuild_snaps_ok (x0 := (Catalog.mk i26 l23 l20 l17 l27)) (hS32.lendL [2, 1, 0, 4] (by decide)) hr28) ?_;rintro ur28_0 w29 ⟨Fr28, _, rfl, hT29⟩;have hS29 := hS32.backL [2, 1, 0, 4] [3, 5, 6, 7, 8] (by decide) (by decide) hT29;have ler28 := hT29.ext;refine qf Ty.field38_1 ?_;refine um (E_bst (c := [ur28_0]) 5 ([.i .i64 i26, ur28_0, u21, u18, ur5_0]) rfl rfl hS29 rfl (hS29.rowLn (k := 0) rfl).cells Ty.size34 (by simp only [List.all_cons, List.all_nil, List.all_append, (hS29.rowLn (k := 0) rfl).one]; rfl) rfl rfl) ?_;rintro _ w33 hS33;refine qn ?_;refine C_seq_join (fun E wq => ∃ l35 : List Snap, rebuild_From.k2 l17 l20 i26 l27 l35 = some r ∧ ∃ (F34 : Frz), E = [(4, pl g1 0), (6, pl g6 0)] ∧ Fr28.le F34 ∧ St [] w F F34 [.row Snap.t ur28_0 l35, .row Chunk.t u21 l20, .row Exp.t u18 l17, .row Vol.t ur5_0 l27, .box g6 [.i .i64 i26, ur28_0, u21, u18, ur5_0], .dp Exp.o [] (.sl none 0 (.k 0)) [], .dp Chunk.o [] (.sl none 0 (.k 0)) [], .dp Snap.o [] (.sl none 0 (.k 0)) [], .box g1 [.i .i64 0, (.sl none 0 (.k 0)), (.sl none 0 (.k 0)), (.sl none 0 (.k 0)), .sl none 0 (.k 0)]] wq) ?_ ?_
  ·refine qs ?_;refine qf Ty.field38_1 ?_;refine qb 5 Ty.cell34 hS33 ?_;refine qr (O_len Tryz.underlying34 rfl (hS33.rowLn (k := 0) rfl)) ?_;refine qm ?_;refine C_block ?_;refine C_loopM (fun (s : Int × (List Snap)) E wq => ∃ (F93 : Frz), E = [(4, pl g1 0), (6, pl g6 0), (42, .i .i64 (r28.length : Int)), (43, .i .i64 s.1)] ∧ Fr28.le F93 ∧ St [] w F F93 [.row Snap.t ur28_0 s.2, .row Chunk.t u21 l20, .row Exp.t u18 l17, .row Vol.t ur5_0 l27, .box g6 [.i .i64 i26, ur28_0, u21, u18, ur5_0], .dp Exp.o [] (.sl none 0 (.k 0)) [], .dp Chunk.o [] (.sl none 0 (.k 0)) [], .dp Snap.o [] (.sl none 0 (.k 0)) [], .box g1 [.i .i64 0, (.sl none 0 (.k 0)), (.sl none 0 (.k 0)), (.sl none 0 (.k 0)), .sl none 0 (.k 0)]] wq) H ?_ ?_
   ·exact ⟨_, ⟨Fr28, rfl, (Frz.le.refl _), hS33.pick [0, 2, 3, 4, 5, 6, 7, 8, 9] (by decide)⟩, ⟨rfl, rfl, rfl, rfl, trivial⟩⟩
   ·rintro rec96 ⟨i94, l95⟩ E w93 hI H
    try dsimp only at hI
    obtain ⟨F93, rfl, le93, hS93⟩ := hI;dsimp only [rebuild_From.l7] at H;refine qs ?_;refine qr (O_bin rfl rfl bI_lss) ?_;refine qn ?_;refine C_seq ?_;refine C_cond rfl (fun hc97 => ?_) (fun hc97 => ?_)
    ·rw [if_t hc97] at H;refine qk ?_;refine C_seq ?_;refine C_block ?_;refine qs ?_;refine qc ?_;refine qm ?_;obtain ⟨x98, hx98, H⟩ := bd_some H;obtain ⟨r100, hr100, H⟩ := bd_some H;have hb101 := hS93.boxAt 4 rfl;refine C_regionD (G := (F93.hold w93 [g6])) [0, 1, 2, 3, 4, 5, 6, 7, 8, 9, 10, 11, 12] rfl Ty.mixed (by kernel_rfl) (HB.agree (HB.cons 4 hb101 hS93 rfl HB.nil) hS93.agree) ?_;refine qf Ty.field38_1 ?_;refine qr (O_fld1 Ty.cell34 rfl (hb101.held (HB.cons 4 hb101 hS93 rfl HB.nil) (by simp)) rfl) ?_;refine qc ?_;refine qf Ty.field38_1 ?_;refine qbq 4 Ty.cell34 hS93 ?_;refine qc ?_;obtain ⟨hp102, hy102⟩ := ix_some hx98;obtain ⟨cs102, hr102, he102⟩ := hS93.rowAt (k := 0) rfl hy102;obtain ⟨ue99_0, ue99_1, rfl, hue99_0, hue99_1⟩ := hr102;replace he102 : Elf _ _ 4 _ _ := he102;have hi102 := he102.ixd;refine qi Tryz.underlying34 Ty.size46 hi102 hp102 ?_;refine qr (O_fld 3 Ty.field46_2 rfl hi102) ?_;refine qq (O_ld1 3 Ty.cell44 rfl he102 (by omega) rfl) ?_;refine ql (plan_Sort_ok hS93.good hue99_1 hr100) ?_;rintro ur100_0 w103 ⟨Fr100, _, rfl, hT103⟩;have hS103 := hS93.call hT103;have ler100 := hT103.ext;refine Nxt.frz (HB.le (HB.cons 5 hb101 hS103 rfl HB.nil) ler100) (HB.agree (HB.cons 5 hb101 hS103 rfl HB.nil) hS103.agree) ?_;refine qi Tryz.underlying34 Ty.size46 hi102 hp102 ?_;refine qr (O_fld 3 Ty.field46_2 rfl hi102) ?_;obtain ⟨F105, le105, hf105, hS105⟩ := hS103.freezeR 0 [1, 2, 3, 4, 5, 6, 7, 8, 9] rfl (by decide) (by decide);refine W_rg (HB.le (HB.cons 4 hb101 hS105 rfl HB.nil) le105) (HB.agree (HB.cons 4 hb101 hS105 rfl HB.nil) hS105.agree) ?_;refine qu (E_put (c := [ur100_0]) 0 (i94.toNat) 3 x98 (Snap.mk x98.seq x98.man r100) rfl rfl hS105 rfl (ix_some hx98).2 (by first | rfl | (show _ = _ * 4 + _; omega)) hf105.ln.cells Ty.size44 (by simp only [List.all_cons, List.all_nil, List.all_append, hf105.ln.one]; rfl) (Nat.le_of_ble_eq_true rfl) (by rintro cs ⟨a2, a3, rfl, b2, b3⟩; exact ⟨a2, ur100_0, rfl, b2, hf105⟩)) ?_;rintro _ w104 hS104;refine qh 4 hb101 hS104 ?_;refine W_nil ?_;refine N_block ?_;refine N_code ?_;refine qd ?_;refine q2 ?_;refine W_nil ?_;exact N_againM (wr (i94 + 1), (l95.set i94.toNat (Snap.mk x98.seq x98.man r100))) _ H ⟨F105, rfl, ((le93.trans ler100).trans le105), hS104⟩ ⟨rfl, rfl, rfl, rfl, trivial⟩
    ·rw [if_f hc97] at H;refine C_exit _ rfl ?_;exact N_join _ ⟨l95, H, ⟨F93, rfl, le93, hS93⟩⟩ ⟨rfl, rfl, trivial⟩
  ·rintro E w34 ⟨l35, H, F34, rfl, le34, hS34⟩;dsimp only [rebuild_From.k2] at H;refine C_seq_join (fun E wq => ∃ l37 : List Chunk, rebuild_From.k3 l17 i26 l27 l35 l37 = some r ∧ ∃ (F36 : Frz), E = [(4, pl g1 0), (6, pl g6 0)] ∧ F34.le F36 ∧ St [] w F F36 [.row Snap.t ur28_0 l35, .row Chunk.t u21 l37, .row Exp.t u18 l17, .row Vol.t ur5_0 l27, .box g6 [.i .i64 i26, ur28_0, u21, u18, ur5_0], .dp Exp.o [] (.sl none 0 (.k 0)) [], .dp Chunk.o [] (.sl none 0 (.k 0)) [], .dp Snap.o [] (.sl none 0 (.k 0)) [], .box g1 [.i .i64 0, (.sl none 0 (.k 0)), (.sl none 0 (.k 0)), (.sl none 0 (.k 0)), .sl none 0 (.k 0)]] wq) ?_ ?_
   ·refine qs ?_;refine qf Ty.field38_2 ?_;refine qb 4 Ty.cell35 hS34 ?_;refine qr (O_len Tryz.underlying35 rfl (hS34.rowLn (k := 1) rfl)) ?_;refine qm ?_;refine C_block ?_;refine C_loopM (fun (s : Int × (List Chunk)) E wq => ∃ (F80 : Frz), E = [(4, pl g1 0), (6, pl g6 0), (61, .i .i64 (l20.length : Int)), (62, .i .i64 s.1)] ∧ F34.le F80 ∧ St [] w F F80 [.row Snap.t ur28_0 l35, .row Chunk.t u21 s.2, .row Exp.t u18 l17, .row Vol.t ur5_0 l27, .box g6 [.i .i64 i26, ur28_0, u21, u18, ur5_0], .dp Exp.o [] (.sl none 0 (.k 0)) [], .dp Chunk.o [] (.sl none 0 (.k 0)) [], .dp Snap.o [] (.sl none 0 (.k 0)) [], .box g1 [.i .i64 0, (.sl none 0 (.k 0)), (.sl none 0 (.k 0)), (.sl none 0 (.k 0)), .sl none 0 (.k 0)]] wq) H ?_ ?_
    ·exact ⟨_, ⟨F34, rfl, (Frz.le.refl _), hS34⟩, ⟨rfl, rfl, rfl, rfl, trivial⟩⟩
    ·rintro rec83 ⟨i81, l82⟩ E w80 hI H
     try dsimp only at hI
     obtain ⟨F80, rfl, le80, hS80⟩ := hI;dsimp only [rebuild_From.l6] at H;refine qs ?_;refine qr (O_bin rfl rfl bI_lss) ?_;refine qn ?_;refine C_seq ?_;refine C_cond rfl (fun hc84 => ?_) (fun hc84 => ?_)
     ·rw [if_t hc84] at H;refine qk ?_;refine C_seq ?_;refine C_block ?_;refine qs ?_;refine qc ?_;refine qm ?_;obtain ⟨x85, hx85, H⟩ := bd_some H;obtain ⟨r87, hr87, H⟩ := bd_some H;have hb88 := hS80.boxAt 4 rfl;refine C_regionD (G := (F80.hold w80 [g6])) [0, 1, 2, 3, 4, 5, 6, 7, 8, 9, 10, 11, 12] rfl Ty.mixed (by kernel_rfl) (HB.agree (HB.cons 4 hb88 hS80 rfl HB.nil) hS80.agree) ?_;refine qf Ty.field38_2 ?_;refine qr (O_fld1 Ty.cell35 rfl (hb88.held (HB.cons 4 hb88 hS80 rfl HB.nil) (by simp)) rfl) ?_;refine qc ?_;refine qf Ty.field38_2 ?_;refine qbq 4 Ty.cell35 hS80 ?_;refine qc ?_;obtain ⟨hp89, hy89⟩ := ix_some hx85;obtain ⟨cs89, hr89, he89⟩ := hS80.rowAt (k := 1) rfl hy89;obtain ⟨ue86_0, ue86_1, rfl, hle86_0, hue86_0, hue86_1⟩ := hr89;replace he89 : Elf _ _ 35 _ _ := he89;have hi89 := he89.ixd;refine qi Tryz.underlying35 Ty.size60 hi89 hp89 ?_;refine qr (O_fld 34 Ty.field60_3 rfl hi89) ?_;refine qq (O_ld1 34 Ty.cell44 rfl he89 (by omega) rfl) ?_;refine ql (plan_Sort_ok hS80.good hue86_1 hr87) ?_;rintro ur87_0 w90 ⟨Fr87, _, rfl, hT90⟩;have hS90 := hS80.call hT90;have ler87 := hT90.ext;refine Nxt.frz (HB.le (HB.cons 5 hb88 hS90 rfl HB.nil) ler87) (HB.agree (HB.cons 5 hb88 hS90 rfl HB.nil) hS90.agree) ?_;refine qi Tryz.underlying35 Ty.size60 hi89 hp89 ?_;refine qr (O_fld 34 Ty.field60_3 rfl hi89) ?_;obtain ⟨F92, le92, hf92, hS92⟩ := hS90.freezeR 0 [1, 2, 3, 4, 5, 6, 7, 8, 9] rfl (by decide) (by decide);refine W_rg (HB.le (HB.cons 4 hb88 hS92 rfl HB.nil) le92) (HB.agree (HB.cons 4 hb88 hS92 rfl HB.nil) hS92.agree) ?_;refine qu (E_put (c := [ur87_0]) 1 (i81.toNat) 34 x85 (Chunk.mk x85.id x85.staged x85.data r87) rfl rfl hS92 rfl (ix_some hx85).2 (by first | rfl | (show _ = _ * 35 + _; omega)) hf92.ln.cells Ty.size44 (by simp only [List.all_cons, List.all_nil, List.all_append, hf92.ln.one]; rfl) (Nat.le_of_ble_eq_true rfl) (by rintro cs ⟨a2, a3, rfl, c0, b2, b3⟩; exact ⟨a2, ur87_0, rfl, c0, b2, hf92⟩)) ?_;rintro _ w91 hS91;refine qh 4 hb88 hS91 ?_;refine W_nil ?_;refine N_block ?_;refine N_code ?_;refine qd ?_;refine q2 ?_;refine W_nil ?_;exact N_againM (wr (i81 + 1), (l82.set i81.toNat (Chunk.mk x85.id x85.staged x85.data r87))) _ H ⟨F92, rfl, ((le80.trans ler87).trans le92), hS91⟩ ⟨rfl, rfl, rfl, rfl, trivial⟩
     ·rw [if_f hc84] at H;refine C_exit _ rfl ?_;exact N_join _ ⟨l82, H, ⟨F80, rfl, le80, hS80⟩⟩ ⟨rfl, rfl, trivial⟩
   ·rintro E w36 ⟨l37, H, F36, rfl, le36, hS36⟩;dsimp only [rebuild_From.k3] at H;refine C_seq_join (fun E wq => ∃ l39 : List Exp, rebuild_From.k4 i26 l27 l35 l37 l39 = some r ∧ ∃ (F38 : Frz), E = [(4, pl g1 0), (6, pl g6 0)] ∧ F36.le F38 ∧ St [] w F F38 [.row Snap.t ur28_0 l35, .row Chunk.t u21 l37, .row Exp.t u18 l39, .row Vol.t ur5_0 l27, .box g6 [.i .i64 i26, ur28_0, u21, u18, ur5_0], .dp Exp.o [] (.sl none 0 (.k 0)) [], .dp Chunk.o [] (.sl none 0 (.k 0)) [], .dp Snap.o [] (.sl none 0 (.k 0)) [], .box g1 [.i .i64 0, (.sl none 0 (.k 0)), (.sl none 0 (.k 0)), (.sl none 0 (.k 0)), .sl none 0 (.k 0)]] wq) ?_ ?_
    ·refine qs ?_;refine qf Ty.field38_3 ?_;refine qb 4 Ty.cell36 hS36 ?_;refine qr (O_len Tryz.underlying36 rfl (hS36.rowLn (k := 2) rfl)) ?_;refine qm ?_;refine C_block ?_;refine C_loopM (fun (s : Int × (List Exp)) E wq => ∃ (F67 : Frz), E = [(4, pl g1 0), (6, pl g6 0), (80, .i .i64 (l17.length : Int)), (81, .i .i64 s.1)] ∧ F36.le F67 ∧ St [] w F F67 [.row Snap.t ur28_0 l35, .row Chunk.t u21 l37, .row Exp.t u18 s.2, .row Vol.t ur5_0 l27, .box g6 [.i .i64 i26, ur28_0, u21, u18, ur5_0], .dp Exp.o [] (.sl none 0 (.k 0)) [], .dp Chunk.o [] (.sl none 0 (.k 0)) [], .dp Snap.o [] (.sl none 0 (.k 0)) [], .box g1 [.i .i64 0, (.sl none 0 (.k 0)), (.sl none 0 (.k 0)), (.sl none 0 (.k 0)), .sl none 0 (.k 0)]] wq) H ?_ ?_
     ·exact ⟨_, ⟨F36, rfl, (Frz.le.refl _), hS36⟩, ⟨rfl, rfl, rfl, rfl, trivial⟩⟩
     ·rintro rec70 ⟨i68, l69⟩ E w67 hI H
      try dsimp only at hI
      obtain ⟨F67, rfl, le67, hS67⟩ := hI;dsimp only [rebuild_From.l5] at H;refine qs ?_;refine qr (O_bin rfl rfl bI_lss) ?_;refine qn ?_;refine C_seq ?_;refine C_cond rfl (fun hc71 => ?_) (fun hc71 => ?_)
      ·rw [if_t hc71] at H;refine qk ?_;refine C_seq ?_;refine C_block ?_;refine qs ?_;refine qc ?_;refine qm ?_;obtain ⟨x72, hx72, H⟩ := bd_some H;obtain ⟨r74, hr74, H⟩ := bd_some H;have hb75 := hS67.boxAt 4 rfl;refine C_regionD (G := (F67.hold w67 [g6])) [0, 1, 2, 3, 4, 5, 6, 7, 8, 9, 10, 11, 12] rfl Ty.mixed (by kernel_rfl) (HB.agree (HB.cons 4 hb75 hS67 rfl HB.nil) hS67.agree) ?_;refine qf Ty.field38_3 ?_;refine qr (O_fld1 Ty.cell36 rfl (hb75.held (HB.cons 4 hb75 hS67 rfl HB.nil) (by simp)) rfl) ?_;refine qc ?_;refine qf Ty.field38_3 ?_;refine qbq 4 Ty.cell36 hS67 ?_;refine qc ?_;obtain ⟨hp76, hy76⟩ := ix_some hx72;obtain ⟨cs76, hr76, he76⟩ := hS67.rowAt (k := 2) rfl hy76;obtain ⟨ue73_0, rfl, hue73_0⟩ := hr76;replace he76 : Elf _ _ 3 _ _ := he76;have hi76 := he76.ixd;refine qi Tryz.underlying36 Ty.size55 hi76 hp76 ?_;refine qr (O_fld 2 Ty.field55_2 rfl hi76) ?_;refine qq (O_ld1 2 Ty.cell44 rfl he76 (by omega) rfl) ?_;refine ql (plan_Sort_ok hS67.good hue73_0 hr74) ?_;rintro ur74_0 w77 ⟨Fr74, _, rfl, hT77⟩;have hS77 := hS67.call hT77;have ler74 := hT77.ext;refine Nxt.frz (HB.le (HB.cons 5 hb75 hS77 rfl HB.nil) ler74) (HB.agree (HB.cons 5 hb75 hS77 rfl HB.nil) hS77.agree) ?_;refine qi Tryz.underlying36 Ty.size55 hi76 hp76 ?_;refine qr (O_fld 2 Ty.field55_2 rfl hi76) ?_;obtain ⟨F79, le79, hf79, hS79⟩ := hS77.freezeR 0 [1, 2, 3, 4, 5, 6, 7, 8, 9] rfl (by decide) (by decide);refine W_rg (HB.le (HB.cons 4 hb75 hS79 rfl HB.nil) le79) (HB.agree (HB.cons 4 hb75 hS79 rfl HB.nil) hS79.agree) ?_;refine qu (E_put (c := [ur74_0]) 2 (i68.toNat) 2 x72 (Exp.mk x72.seq x72.of r74) rfl rfl hS79 rfl (ix_some hx72).2 (by first | rfl | (show _ = _ * 3 + _; omega)) hf79.ln.cells Ty.size44 (by simp only [List.all_cons, List.all_nil, List.all_append, hf79.ln.one]; rfl) (Nat.le_of_ble_eq_true rfl) (by rintro cs ⟨a2, rfl, b2⟩; exact ⟨ur74_0, rfl, hf79⟩)) ?_;rintro _ w78 hS78;refine qh 4 hb75 hS78 ?_;refine W_nil ?_;refine N_block ?_;refine N_code ?_;refine qd ?_;refine q2 ?_;refine W_nil ?_;exact N_againM (wr (i68 + 1), (l69.set i68.toNat (Exp.mk x72.seq x72.of r74))) _ H ⟨F79, rfl, ((le67.trans ler74).trans le79), hS78⟩ ⟨rfl, rfl, rfl, rfl, trivial⟩
      ·rw [if_f hc71] at H;refine C_exit _ rfl ?_;exact N_join _ ⟨l69, H, ⟨F67, rfl, le67, hS67⟩⟩ ⟨rfl, rfl, trivial⟩
    ·rintro E w38 ⟨l39, H, F38, rfl, le38, hS38⟩;dsimp only [rebuild_From.k4] at H;refine C_seq ?_;refine C_seq ?_;obtain ⟨r40, hr40, H⟩ := bd_some H;refine qd ?_;refine qr (O_bldg 4 (Catalog.cells (Catalog.mk i26 l35 l37 l39 l27) ur28_0 u21 u18 ur5_0) Ty.agg38 Ty.size38 (Nat.zero_lt_succ _) rfl hS38 rfl (fun q u h => sub_at (post := []) rfl h)) ?_;refine lm (catalog_Check_ok (Gd.now hS38.wf) (hS38.rowNow (k := 0) rfl) (hS38.rowNow (k := 1) rfl) (hS38.rowNow (k := 2) rfl) (hS38.rowNow (k := 3) rfl) hr40) ?_;rintro v41 w41 ⟨Fr40, rfl, hT41⟩;have hS41 := hS38.lent hT41;refine qr (O_bin rfl rfl bI_neq) ?_;refine qn ?_;refine C_cond rfl (fun hc42 => ?_) (fun hc42 => ?_)
     ·rw [if_t hc42] at H;refine qs ?_;refine W_c (v := .agg (Catalog.cells (Catalog.mk 0 [] [] [] []) (.sl none 0 (.k 0)) (.sl none 0 (.k 0)) (.sl none 0 (.k 0)) (.sl none 0 (.k 0)))) rfl rfl rfl rfl (fun _ => rfl) ?_;refine um (E_bst (c := [.i .i64 0, .sl none 0 (.k 0), .sl none 0 (.k 0), .sl none 0 (.k 0), .sl none 0 (.k 0)]) 8 ([.i .i64 0, .sl none 0 (.k 0), .sl none 0 (.k 0), .sl none 0 (.k 0), .sl none 0 (.k 0)]) rfl rfl hS41 rfl rfl Ty.size38 rfl rfl rfl) ?_;rintro _ w46 hS46;have hS43 := hS46.nilDp Snap.o;have hS44 := hS43.nilDp Chunk.o;have hS45 := hS44.nilDp Exp.o;refine qm ?_;obtain ⟨F47, le47, hS47⟩ := St.flatD Snap.sees 2 hS45 rfl;obtain ⟨F48, le48, hf48, hS48⟩ := hS47.freezeR 2 [0, 1, 3, 4, 5, 6, 7, 8, 9, 10, 11] rfl (by decide) (by decide);obtain ⟨F49, le49, hS49⟩ := St.flatD Chunk.sees 1 hS48 rfl;obtain ⟨F50, le50, hf50, hS50⟩ := hS49.freezeR 1 [0, 2, 3, 4, 5, 6, 7, 8, 9, 10] rfl (by decide) (by decide);obtain ⟨F51, le51, hS51⟩ := St.flatD Exp.sees 0 hS50 rfl;obtain ⟨F52, le52, hf52, hS52⟩ := hS51.freezeR 0 [1, 2, 3, 4, 5, 6, 7, 8, 9] rfl (by decide) (by decide);have hS53 : St [] w F F52 [.row Snap.t ur28_0 l35, .row Chunk.t u21 l37, .row Exp.t u18 l39, .row Vol.t ur5_0 l27, .box g6 [.i .i64 i26, ur28_0, u21, u18, ur5_0], .dp Exp.o [] (.sl none 0 (.k 0)) [], .dp Chunk.o [] (.sl none 0 (.k 0)) [], .dp Snap.o [] (.sl none 0 (.k 0)) [], .box g1 [.i .i64 0, (.sl none 0 (.k 0)), (.sl none 0 (.k 0)), (.sl none 0 (.k 0)), .sl none 0 (.k 0)]] _ := hS52;obtain rfl := oi H;refine C_retM (vs := [.agg (Catalog.cells (Catalog.mk 0 [] [] [] []) (.sl none 0 (.k 0)) (.sl none 0 (.k 0)) (.sl none 0 (.k 0)) (.sl none 0 (.k 0))), .i .i64 1]) rfl ⟨(box_out 8 Ty.agg38 Ty.size38 hS53 rfl rfl), rfl, trivial⟩ ?_;exact ⟨F52, (.sl none 0 (.k 0)), (.sl none 0 (.k 0)), (.sl none 0 (.k 0)), .sl none 0 (.k 0), rfl, (hf48.mono (((le49.trans le50).trans le51).trans le52)), (hf50.mono (le51.trans le52)), hf52, (SlF.nil _), hS53.pick [] (by decide)⟩
     ·rw [if_f hc42] at H;refine qk ?_;refine C_seq ?_;obtain ⟨r54, hr54, H⟩ := bd_some H;refine qd ?_;refine qr (O_bldg 4 (Catalog.cells (Catalog.mk i26 l35 l37 l39 l27) ur28_0 u21 u18 ur5_0) Ty.agg38 Ty.size38 (Nat.zero_lt_succ _) rfl hS41 rfl (fun q u h => sub_at (post := []) rfl h)) ?_;obtain ⟨F55, le55, hf55, hS55⟩ := hS41.freezeR 0 [1, 2, 3, 4, 5, 6, 7, 8] rfl (by decide) (by decide);obtain ⟨F56, le56, hf56, hS56⟩ := hS55.freezeR 0 [1, 2, 3, 4, 5, 6, 7] rfl (by decide) (by decide);obtain ⟨F57, le57, hf57, hS57⟩ := hS56.freezeR 0 [1, 2, 3, 4, 5, 6] rfl (by decide) (by decide);have hS58 : St [] w F F57 [.row Vol.t ur5_0 l27, .box g6 [.i .i64 i26, ur28_0, u21, u18, ur5_0], .dp Exp.o [] (.sl none 0 (.k 0)) [], .dp Chunk.o [] (.sl none 0 (.k 0)) [], .dp Snap.o [] (.sl none 0 (.k 0)) [], .box g1 [.i .i64 0, (.sl none 0 (.k 0)), (.sl none 0 (.k 0)), (.sl none 0 (.k 0)), .sl none 0 (.k 0)]] _ := hS57;obtain ⟨F59, le59, hf59, hS59⟩ := hS58.freezeR 0 [1, 2, 3, 4, 5] rfl (by decide) (by decide);refine lm (catalog_Twin_ok hS59.good (hf55.mono ((le56.trans le57).trans le59)) (hf56.mono (le57.trans le59)) (hf57.mono le59) hf59 hr54) ?_;rintro v60 w60 ⟨Fr54, ur54_0_0, ur54_0_1, ur54_0_2, ur54_0_3, rfl, hT60⟩;have hS60 := hS59.call hT60;have ler54 := hT60.ext;refine um (E_bst (c := [.i .i64 r54.seq, ur54_0_0, ur54_0_1, ur54_0_2, ur54_0_3]) 8 ([.i .i64 r54.seq, ur54_0_0, ur54_0_1, ur54_0_2, ur54_0_3]) rfl rfl hS60 rfl rfl Ty.size38 (by simp only [List.all_cons, List.all_nil, List.all_append, (hS60.rowLn (k := 0) rfl).one, (hS60.rowLn (k := 1) rfl).one, (hS60.rowLn (k := 2) rfl).one, (hS60.rowLn (k := 3) rfl).one]; rfl) rfl rfl) ?_;rintro _ w61 hS61;refine qm ?_;obtain ⟨F62, le62, hf62, hS62⟩ := hS61.freezeR 0 [1, 2, 3, 4, 5, 6, 7, 8] rfl (by decide) (by decide);obtain ⟨F63, le63, hf63, hS63⟩ := hS62.freezeR 0 [1, 2, 3, 4, 5, 6, 7] rfl (by decide) (by decide);have hS64 : St [] w F F63 [.row Exp.t ur54_0_2 r54.exps, .row Vol.t ur54_0_3 r54.vols, .box g6 [.i .i64 i26, ur28_0, u21, u18, ur5_0], .dp Exp.o [] (.sl none 0 (.k 0)) [], .dp Chunk.o [] (.sl none 0 (.k 0)) [], .dp Snap.o [] (.sl none 0 (.k 0)) [], .box g1 [.i .i64 r54.seq, ur54_0_0, ur54_0_1, ur54_0_2, ur54_0_3]] _ := hS63;obtain ⟨F65, le65, hf65, hS65⟩ := hS64.freezeR 0 [1, 2, 3, 4, 5, 6] rfl (by decide) (by decide);obtain ⟨F66, le66, hf66, hS66⟩ := hS65.freezeR 0 [1, 2, 3, 4, 5] rfl (by decide) (by decide);obtain rfl := oi H;refine C_retM (vs := [.agg (Catalog.cells r54 ur54_0_0 ur54_0_1 ur54_0_2 ur54_0_3), .i .i64 0]) rfl ⟨(box_out 4 Ty.agg38 Ty.size38 hS66 rfl rfl), rfl, trivial⟩ ?_
      exact ⟨F66, ur54_0_0, ur54_0_1, ur54_0_2, ur54_0_3, rfl, (hf62.mono ((le63.trans le65).trans le66)), (hf63.mono (le65.trans le66)), (hf65.mono le66), hf66, hS66.pick [] (by decide)⟩
def cellarerlaw24_wakes : Option Bool :=
  bd (rebuild_From [(Vol.mk 0 0 2 1)] [(Found.mk (Record.mk 1 0 [(120 : UInt8)]) (Loc.mk 0 1 13 14))]) fun r4 =>
  bd (only (decide (r4.2 = 0) && decide ((r4.1.chunks.length : Int) = 1)) (ix r4.1.chunks 0) (Chunk.mk (List.replicate 32 (0 : UInt8)) false [] [])) fun x13 =>
  bd (only ((decide (r4.2 = 0) && decide ((r4.1.chunks.length : Int) = 1)) && decide ((x13.locs.length : Int) = 1)) (ix r4.1.chunks 0) (Chunk.mk (List.replicate 32 (0 : UInt8)) false [] [])) fun x15 =>
  some (((decide (r4.2 = 0) && decide ((r4.1.chunks.length : Int) = 1)) && decide ((x13.locs.length : Int) = 1)) && (!x15.staged))
set_option maxRecDepth 100000 in
theorem cellarerlaw24_wakes_ok {F : Frz} {w : Hp} {r : Bool} (hA : Gd F w) (H : cellarerlaw24_wakes = some r) : Ret Tryz.prog KK 11 [] w fun v w' => ∃ (F' : Frz), v = .b r ∧ St [] w F F' [] w' := by
 refine Ret_of (args := []) Tryz.func11 rfl (by decide) rfl ?_;change C _ _ _ _ _ [] _;have hS := St.start hA;dsimp only [cellarerlaw24_wakes] at H;refine qs ?_;refine qm ?_;refine C_seq ?_;obtain ⟨r4, hr4, H⟩ := bd_some H;refine qd ?_;refine W_c (v := .agg (Vol.cells (Vol.mk 0 0 2 1))) rfl rfl rfl rfl (fun _ => rfl) ?_;refine xm (E_bs (t := Vol.t) (vs := [.agg (Vol.cells (Vol.mk 0 0 2 1))]) (xs := [(Vol.mk 0 0 2 1)]) Tryz.underlying33 Ty.row32 rfl ⟨rfl, trivial⟩ rfl rfl hS) ?_;rintro u1 w1 hS1;refine xm (E_bs (t := tB) (vs := [.i .u8 ((120 : UInt8).toNat : Int)]) (xs := [(120 : UInt8)]) Tryz.underlying47 Ty.row5 rfl ⟨rfl, trivial⟩ rfl rfl hS1) ?_;rintro u2 w2 hS2;refine xm (E_cvt 0 Tryz.underlying47 Tryz.underlying5 rfl hS2 rfl (List.cons_ne_nil _ _) rfl) ?_;rintro _ _ ⟨rfl, rfl⟩;have hcl6 := (hS2.rowLn (k := 0) rfl).cells;refine qr (O_build (vs := [(0, .i .i64 1), (2, u2)]) (v := .agg (Record.cells (Record.mk 1 0 [(120 : UInt8)]) u2)) Ty.bld49 rfl (by simp only [fillV, hcl6]; rfl)) ?_;refine W_c (v := .agg (Loc.cells (Loc.mk 0 1 13 14))) rfl rfl rfl rfl (fun _ => rfl) ?_;have hcl7 := (hS2.rowLn (k := 0) rfl).cells;refine qr (O_build (vs := [(0, .agg (Record.cells (Record.mk 1 0 [(120 : UInt8)]) u2)), (1, .agg (Loc.cells (Loc.mk 0 1 13 14)))]) (v := .agg (Found.cells (Found.mk (Record.mk 1 0 [(120 : UInt8)]) (Loc.mk 0 1 13 14)) u2)) Ty.bld53 rfl (by simp only [fillV, hcl7]; rfl)) ?_;obtain ⟨F8, le8, hf8, hS8⟩ := hS2.freezeR 0 [1] rfl (by decide) (by decide);refine xm (E_bs (t := Found.t) (vs := [.agg (Found.cells (Found.mk (Record.mk 1 0 [(120 : UInt8)]) (Loc.mk 0 1 13 14)) u2)]) (xs := [(Found.mk (Record.mk 1 0 [(120 : UInt8)]) (Loc.mk 0 1 13 14))]) Tryz.underlying27 Ty.row53 rfl ⟨⟨u2, rfl, hf8⟩, trivial⟩ rfl rfl hS8) ?_;rintro u3 w3 hS3;obtain ⟨F9, le9, hf9, hS9⟩ := hS3.freezeR 1 [0] rfl (by decide) (by decide);obtain ⟨F10, le10, hf10, hS10⟩ := hS9.freezeR 0 [] rfl (by decide) (by decide);refine lm (rebuild_From_ok hS10.good (hf9.mono le10) hf10 hr4) ?_;rintro v11 w11 ⟨Fr4, ur4_0_0, ur4_0_1, ur4_0_2, ur4_0_3, rfl, hfr4_0_0, hfr4_0_1, hfr4_0_2, hfr4_0_3, hT11⟩;have hS11 := hS10.call hT11;have ler4 := hT11.ext;refine q3 ?_;refine xm (E_alc (cs := [.i .i64 0, .sl none 0 (.k 0), .sl none 0 (.k 0), .sl none 0 (.k 0), .sl none 0 (.k 0)]) Ty.zero38 rfl hS11) ?_;rintro _ w5 ⟨g5, rfl, hS5⟩;refine um (E_bst (c := [.i .i64 r4.1.seq, ur4_0_0, ur4_0_1, ur4_0_2, ur4_0_3]) 0 ([.i .i64 r4.1.seq, ur4_0_0, ur4_0_1, ur4_0_2, ur4_0_3]) rfl rfl hS5 rfl rfl Ty.size38 (by simp only [List.all_cons, List.all_nil, List.all_append, hfr4_0_0.ln.one, hfr4_0_1.ln.one, hfr4_0_2.ln.one, hfr4_0_3.ln.one]; rfl) rfl rfl) ?_
 rintro _ w12 hS12;refine qm ?_;refine C_seq ?_;obtain ⟨x13, hx13, H⟩ := bd_some H;obtain ⟨x15, hx15, H⟩ := bd_some H;refine C_join (fun E wq => E = [(0, .b (((decide (r4.2 = 0) && decide ((r4.1.chunks.length : Int) = 1)) && decide ((x13.locs.length : Int) = 1)) && (!x15.staged)))] ∧ ∃ F17 : Frz, Fr4.le F17 ∧ St [] w F F17 [.box g5 [.i .i64 r4.1.seq, ur4_0_0, ur4_0_1, ur4_0_2, ur4_0_3]] wq) ?_ ?_
 ·
  rcases Bool.eq_false_or_eq_true (decide (r4.2 = 0)) with hb18 | hb18
  ·
   rcases Bool.eq_false_or_eq_true (decide ((r4.1.chunks.length : Int) = 1)) with hb19 | hb19
   ·
    rcases Bool.eq_false_or_eq_true (decide ((x13.locs.length : Int) = 1)) with hb20 | hb20
    ·refine qd ?_;refine qc ?_;refine qr (O_bin rfl rfl bI_eql) ?_;refine qc ?_;refine W_eqv (t := 17) (v' := .b true) rfl (congrArg Val.b hb18) ?_;refine qf Ty.field38_2 ?_;refine qb 0 Ty.cell35 hS12 ?_;refine qr (O_len Tryz.underlying35 rfl hfr4_0_1.ln) ?_;refine qr (O_bin rfl rfl bI_eql) ?_;refine q2 ?_;refine W_eqv (t := 23) (v' := .b true) rfl (congrArg Val.b hb19) ?_;refine qf Ty.field38_2 ?_;refine qb 0 Ty.cell35 hS12 ?_;have hy21 := hx13;rw [only_t (by first | rfl | (rw [hb19, hb18]; first | done | rfl) | simp [hb18, hb19, hb20])] at hy21;obtain ⟨hp22, hy22⟩ := ix_some hy21;obtain ⟨cs22, hr22, he22⟩ := hfr4_0_1.el hy22;obtain ⟨ue14_0, ue14_1, rfl, hle14_0, hue14_0, hue14_1⟩ := hr22;replace he22 : Elf _ _ 35 _ _ := he22;have hi22 := he22.ixd;refine qi Tryz.underlying35 Ty.size60 hi22 hp22 ?_;refine qr (O_fld 34 Ty.field60_3 rfl hi22) ?_;refine qr (O_ld1 34 Ty.cell44 rfl (he22.mono hS12.agree) (by omega) rfl) ?_;refine qr (O_len Tryz.underlying44 rfl hue14_1.ln) ?_;refine qr (O_bin rfl rfl bI_eql) ?_;refine q2 ?_;refine W_eqv (t := 32) (v' := .b true) rfl (congrArg Val.b hb20) ?_;refine qf Ty.field38_2 ?_;refine qb 0 Ty.cell35 hS12 ?_;have hy23 := hx15;rw [only_t (by first | rfl | (rw [hb19, hb20, hb18]; first | done | rfl) | simp [hb18, hb19, hb20])] at hy23;obtain ⟨hp24, hy24⟩ := ix_some hy23;obtain ⟨cs24, hr24, he24⟩ := hfr4_0_1.el hy24;obtain ⟨ue16_0, ue16_1, rfl, hle16_0, hue16_0, hue16_1⟩ := hr24;replace he24 : Elf _ _ 35 _ _ := he24;have hi24 := he24.ixd;refine qi Tryz.underlying35 Ty.size60 hi24 hp24 ?_;refine qr (O_fld 32 Ty.field60_1 rfl hi24) ?_;refine qr (O_ld1 32 Ty.cell4 rfl (he24.mono hS12.agree) (by omega) rfl) ?_;refine q3 ?_;refine W_nil ?_;exact N_join _ ⟨rfl, Fr4, (Frz.le.refl _), hS12⟩ ⟨(look_bool rfl (by first | rfl | (rw [hb19, hb20, hb18]; first | done | rfl) | simp [hb18, hb19, hb20])), trivial⟩
    ·refine qd ?_;refine qc ?_;refine qr (O_bin rfl rfl bI_eql) ?_;refine qc ?_;refine W_eqv (t := 17) (v' := .b true) rfl (congrArg Val.b hb18) ?_;refine qf Ty.field38_2 ?_;refine qb 0 Ty.cell35 hS12 ?_;refine qr (O_len Tryz.underlying35 rfl hfr4_0_1.ln) ?_;refine qr (O_bin rfl rfl bI_eql) ?_;refine q2 ?_;refine W_eqv (t := 23) (v' := .b true) rfl (congrArg Val.b hb19) ?_;refine qf Ty.field38_2 ?_;refine qb 0 Ty.cell35 hS12 ?_;have hy25 := hx13;rw [only_t (by first | rfl | (rw [hb19, hb18]; first | done | rfl) | simp [hb18, hb19, hb20])] at hy25;obtain ⟨hp26, hy26⟩ := ix_some hy25;obtain ⟨cs26, hr26, he26⟩ := hfr4_0_1.el hy26;obtain ⟨ue14_0, ue14_1, rfl, hle14_0, hue14_0, hue14_1⟩ := hr26;replace he26 : Elf _ _ 35 _ _ := he26;have hi26 := he26.ixd;refine qi Tryz.underlying35 Ty.size60 hi26 hp26 ?_;refine qr (O_fld 34 Ty.field60_3 rfl hi26) ?_;refine qr (O_ld1 34 Ty.cell44 rfl (he26.mono hS12.agree) (by omega) rfl) ?_;refine qr (O_len Tryz.underlying44 rfl hue14_1.ln) ?_;refine qr (O_bin rfl rfl bI_eql) ?_;refine q2 ?_;refine W_eqv (t := 32) (v' := .b false) rfl (congrArg Val.b hb20) ?_;refine qz ?_;refine qz ?_;refine qz ?_;refine qz ?_;refine qz ?_;refine qz ?_;refine q2 ?_;refine W_nil ?_;exact N_join _ ⟨rfl, Fr4, (Frz.le.refl _), hS12⟩ ⟨(look_bool rfl (by first | rfl | (rw [hb19, hb20, hb18]; first | done | rfl) | simp [hb18, hb19, hb20])), trivial⟩
   ·refine qd ?_;refine qc ?_;refine qr (O_bin rfl rfl bI_eql) ?_;refine qc ?_;refine W_eqv (t := 17) (v' := .b true) rfl (congrArg Val.b hb18) ?_;refine qf Ty.field38_2 ?_;refine qb 0 Ty.cell35 hS12 ?_;refine qr (O_len Tryz.underlying35 rfl hfr4_0_1.ln) ?_;refine qr (O_bin rfl rfl bI_eql) ?_;refine q2 ?_;refine W_eqv (t := 23) (v' := .b false) rfl (congrArg Val.b hb19) ?_;refine qz ?_;refine qz ?_;refine qz ?_;refine qz ?_;refine qz ?_;refine qz ?_;refine qz ?_;refine q2 ?_;refine qz ?_;refine qz ?_;refine qz ?_;refine qz ?_;refine qz ?_;refine qz ?_;refine q2 ?_;refine W_nil ?_;exact N_join _ ⟨rfl, Fr4, (Frz.le.refl _), hS12⟩ ⟨(look_bool rfl (by first | rfl | (rw [hb19, hb18]; first | done | rfl) | simp [hb18, hb19])), trivial⟩
  ·refine qd ?_;refine qc ?_;refine qr (O_bin rfl rfl bI_eql) ?_;refine qc ?_;refine W_eqv (t := 17) (v' := .b false) rfl (congrArg Val.b hb18) ?_;refine qz ?_;refine qz ?_;refine qz ?_;refine qz ?_;refine q2 ?_;refine qz ?_;refine qz ?_;refine qz ?_;refine qz ?_;refine qz ?_;refine qz ?_;refine qz ?_;refine q2 ?_;refine qz ?_;refine qz ?_;refine qz ?_;refine qz ?_;refine qz ?_;refine qz ?_;refine q2 ?_;refine W_nil ?_;exact N_join _ ⟨rfl, Fr4, (Frz.le.refl _), hS12⟩ ⟨(look_bool rfl (by first | rfl | (rw [hb18]; first | done | rfl) | simp [hb18])), trivial⟩
 rintro E w17 ⟨rfl, F17, le17, hS17⟩;refine N_code ?_;obtain rfl := oi H;refine C_ret rfl rfl ?_;exact ⟨F17, rfl, hS17.pick [] (by decide)⟩
def cellarerlaw24_RebuildEmpty.k1 (r7 : Catalog × Int) (l42 : List Found) : Option Bool :=
  bd (rebuild_From r7.1.vols l42) fun r45 =>
  bd (only (decide (r45.2 = 0)) (cellarerkeep_Catalog r45.1 r7.1) false) fun r50 =>
  bd (only ((decide (r45.2 = 0) && r50) && decide (r45.1.seq = 0)) (cellarerlaw24_wakes) false) fun r51 =>
  some (((decide (r45.2 = 0) && r50) && decide (r45.1.seq = 0)) && r51)
def cellarerlaw24_RebuildEmpty.l2 (x1 : List (List UInt8)) (r7 : Catalog × Int) (rec72 : ((List Found) × Int) → Option Bool) : ((List Found) × Int) → Option Bool
  | (l68, i71) =>
    if decide (i71 < (x1.length : Int)) then
      bd (ix x1 i71) fun x74 =>
      if decide (300 < (x74.length : Int)) then
        some true
      else
        bd (rep 65 0) fun l78 =>
        bd (ix x1 i71) fun x80 =>
        bd (app (α := UInt8) l78 x80) fun l82 =>
        bd (ix x1 i71) fun x86 =>
        bd (app (α := UInt8) [(0 : UInt8), (0 : UInt8), (0 : UInt8), (0 : UInt8), (0 : UInt8)] x86) fun l89 =>
        bd (app (α := UInt8) [(255 : UInt8)] x86) fun l91 =>
        bd (app (α := Found) l68 [(Found.mk (Record.mk 1 0 l82) (Loc.mk 0 0 0 0)), (Found.mk (Record.mk 3 5 l89) (Loc.mk 0 0 0 0)), (Found.mk (Record.mk 2 7 l91) (Loc.mk 0 0 0 0)), (Found.mk (Record.mk 4 3 x86) (Loc.mk 0 0 0 0)), (Found.mk (Record.mk 5 3 x86) (Loc.mk 0 0 0 0)), (Found.mk (Record.mk 1 0 []) (Loc.mk 0 0 0 0))]) fun l94 =>
        rec72 (l94, wr (i71 + 1))
    else
      cellarerlaw24_RebuildEmpty.k1 r7 l68
def cellarerlaw24_RebuildEmpty (x0 : List Int) (x1 : List (List UInt8)) : Option Bool :=
  if (decide (30 < (x0.length : Int)) || decide (20 < (x1.length : Int))) then
    some true
  else
    bd (cellarerlaw19_Pools x0) fun r5 =>
    bd (catalog_New r5) fun r7 =>
    bd (rebuild_From r7.1.vols []) fun r12 =>
    bd (only (!(decide (r7.2 ≠ 0) || decide (r12.2 ≠ 0))) (cellarerkeep_Catalog r12.1 r7.1) false) fun r21 =>
    bd (only (!(((decide (r7.2 ≠ 0) || decide (r12.2 ≠ 0)) || (!r21)) || decide (r12.1.seq ≠ 0))) (rebuild_Part r7.1) (Catalog.mk 0 [] [] [] [])) fun r22 =>
    bd (only (!(((decide (r7.2 ≠ 0) || decide (r12.2 ≠ 0)) || (!r21)) || decide (r12.1.seq ≠ 0))) (cellarerkeep_Catalog r22 r7.1) false) fun r23 =>
    if ((((decide (r7.2 ≠ 0) || decide (r12.2 ≠ 0)) || (!r21)) || decide (r12.1.seq ≠ 0)) || (!r23)) then
      some false
    else
      loop (cellarerlaw24_RebuildEmpty.l2 x1 r7) ([], 0)
set_option maxRecDepth 100000 in
set_option maxHeartbeats 2000000 in
theorem cellarerlaw24_RebuildEmpty_ok {F : Frz} {w : Hp} {x0 : List Int} {x1 : List (List UInt8)} {r : Bool} {v0 : Val} {v1 : Val} (hA : Gd F w) (h0 : SlF tI F v0 x0) (h1 : SlF (tSl tB) F v1 x1) (H : cellarerlaw24_RebuildEmpty x0 x1 = some r) : Ret Tryz.prog KK 8 [v0, v1] w fun v w' => ∃ (F' : Frz), v = .b r ∧ St [] w F F' [] w' := by
 refine qa2 Tryz.func8 ?_;have hS := St.start hA;dsimp only [cellarerlaw24_RebuildEmpty] at H;refine qs ?_;refine qm ?_;refine C_seq ?_;refine qs ?_;refine qc ?_;refine qr (O_len Tryz.underlying72 rfl h0.ln) ?_;refine qr (O_bin rfl rfl bI_gtr) ?_;refine qc ?_;refine W_gs (v := v1) rfl rfl rfl rfl (fun ⟨hb1, _⟩ => ?_) ?_
 ·rw [hb1];intro hK;refine qc ?_;exact hK
 refine W_gs (v := .i .i64 (x1.length : Int)) rfl rfl rfl rfl (fun ⟨hb2, _⟩ => ?_) ?_
 ·rw [hb2];intro hK;refine qr (O_len Tryz.underlying95 rfl h1.ln) ?_;exact hK
 refine W_gs (v := .b (decide (20 < (x1.length : Int)))) rfl rfl rfl rfl (fun ⟨hb3, _⟩ => ?_) ?_
 ·rw [hb3];intro hK;refine qr (O_bin rfl rfl bI_gtr) ?_;exact hK
 refine W_pkO rfl rfl rfl rfl rfl rfl (fun hc => by rw [hc]; rfl) ?_;refine qn ?_;refine C_cond rfl (fun hc4 => ?_) (fun hc4 => ?_)
 ·rw [if_t hc4] at H;refine qs ?_;refine qm ?_;obtain rfl := oi H;refine C_ret rfl rfl ?_;exact ⟨F, rfl, hS⟩
 ·rw [if_f hc4] at H;refine qk ?_;refine C_seq ?_;obtain ⟨r5, hr5, H⟩ := bd_some H;refine qd ?_;refine qc ?_;refine lm (cellarerlaw19_Pools_ok hS.good h0 hr5) ?_;rintro ur5_0 w6 ⟨Fr5, _, rfl, hT6⟩;have hS6 := hS.call hT6;have ler5 := hT6.ext;refine qm ?_;refine C_seq ?_;obtain ⟨r7, hr7, H⟩ := bd_some H;refine qd ?_;refine qc ?_;obtain ⟨F9, le9, hf9, hS9⟩ := hS6.freezeR 0 [] rfl (by decide) (by decide);refine lm (catalog_New_ok hS9.good hf9 hr7) ?_;rintro v10 w10 ⟨Fr7, ur7_0_0, ur7_0_1, ur7_0_2, ur7_0_3, rfl, hT10⟩;have hS10 := hS9.call hT10;have ler7 := hT10.ext;refine q3 ?_;refine xm (E_alc (cs := [.i .i64 0, .sl none 0 (.k 0), .sl none 0 (.k 0), .sl none 0 (.k 0), .sl none 0 (.k 0)]) Ty.zero38 rfl hS10) ?_;rintro _ w8 ⟨g8, rfl, hS8⟩;refine um (E_bst (c := [.i .i64 r7.1.seq, ur7_0_0, ur7_0_1, ur7_0_2, ur7_0_3]) 0 ([.i .i64 r7.1.seq, ur7_0_0, ur7_0_1, ur7_0_2, ur7_0_3]) rfl rfl hS8 rfl rfl Ty.size38 (by simp only [List.all_cons, List.all_nil, List.all_append, (hS8.rowLn (k := 1) rfl).one, (hS8.rowLn (k := 2) rfl).one, (hS8.rowLn (k := 3) rfl).one, (hS8.rowLn (k := 4) rfl).one]; rfl) rfl rfl) ?_;rintro _ w11 hS11;refine qm ?_;refine C_seq ?_;obtain ⟨r12, hr12, H⟩ := bd_some H;refine qd ?_;refine qf Ty.field38_4 ?_;refine qb 0 Ty.cell33 hS11 ?_;obtain ⟨F14, le14, hf14, hS14⟩ := hS11.freezeR 4 [0, 1, 2, 3] rfl (by decide) (by decide);refine lm (rebuild_From_ok hS14.good hf14 (SlF.nil _) hr12) ?_;rintro v15 w15 ⟨Fr12, ur12_0_0, ur12_0_1, ur12_0_2, ur12_0_3, rfl, hfr12_0_0, hfr12_0_1, hfr12_0_2, hfr12_0_3, hT15⟩;have hS15 := hS14.call hT15;have ler12 := hT15.ext;refine q3 ?_;refine xm (E_alc (cs := [.i .i64 0, .sl none 0 (.k 0), .sl none 0 (.k 0), .sl none 0 (.k 0), .sl none 0 (.k 0)]) Ty.zero38 rfl hS15) ?_;rintro _ w13 ⟨g13, rfl, hS13⟩;refine um (E_bst (c := [.i .i64 r12.1.seq, ur12_0_0, ur12_0_1, ur12_0_2, ur12_0_3]) 0 ([.i .i64 r12.1.seq, ur12_0_0, ur12_0_1, ur12_0_2, ur12_0_3]) rfl rfl hS13 rfl rfl Ty.size38 (by simp only [List.all_cons, List.all_nil, List.all_append, hfr12_0_0.ln.one, hfr12_0_1.ln.one, hfr12_0_2.ln.one, hfr12_0_3.ln.one]; rfl) rfl rfl) ?_;rintro _ w16 hS16;refine qm ?_;refine C_seq ?_;refine C_seq ?_;obtain ⟨F17, le17, hf17, hS17⟩ := hS16.freezeR 2 [0, 1, 3, 4] rfl (by decide) (by decide);obtain ⟨F18, le18, hf18, hS18⟩ := hS17.freezeR 2 [0, 1, 3] rfl (by decide) (by decide);obtain ⟨F19, le19, hf19, hS19⟩ := hS18.freezeR 2 [0, 1] rfl (by decide) (by decide);have hS20 : St [] w F F19 [.box g13 [.i .i64 r12.1.seq, ur12_0_0, ur12_0_1, ur12_0_2, ur12_0_3], .box g8 [.i .i64 r7.1.seq, ur7_0_0, ur7_0_1, ur7_0_2, ur7_0_3]] _ := hS19
  obtain ⟨r21, hr21, H⟩ := bd_some H;obtain ⟨r22, hr22, H⟩ := bd_some H;obtain ⟨r23, hr23, H⟩ := bd_some H;refine C_join (fun E wq => E = [(1, v1), (5, pl g8 0), (58, .b ((((decide (r7.2 ≠ 0) || decide (r12.2 ≠ 0)) || (!r21)) || decide (r12.1.seq ≠ 0)) || (!r23)))] ∧ ∃ F24 : Frz, F19.le F24 ∧ St [] w F F24 [.box g13 [.i .i64 r12.1.seq, ur12_0_0, ur12_0_1, ur12_0_2, ur12_0_3], .box g8 [.i .i64 r7.1.seq, ur7_0_0, ur7_0_1, ur7_0_2, ur7_0_3]] wq) ?_ ?_
  ·
   rcases Bool.eq_false_or_eq_true (decide (r7.2 ≠ 0)) with hb25 | hb25
   ·refine C_regionD (G := F19) [0, 1, 2, 3, 4, 5, 6, 7, 8, 9, 10, 11, 12, 13, 14, 15, 16, 17, 18, 20, 19, 21, 22, 23] rfl Ty.mixed (by kernel_rfl) hS20.agree ?_;refine qc ?_;refine qr (O_bin rfl rfl bI_neq) ?_;refine qc ?_;refine W_eqv (t := 37) (v' := .b true) rfl (congrArg Val.b hb25) ?_;refine qz ?_;refine qz ?_;refine q2 ?_;refine qz ?_;refine qz ?_;refine qz ?_;refine qz ?_;refine q2 ?_;refine qz ?_;refine qz ?_;refine qz ?_;refine q2 ?_;refine qz ?_;refine qz ?_;refine qz ?_;refine qz ?_;refine qz ?_;refine qc ?_;refine W_nil ?_;exact N_join _ ⟨rfl, F19, (Frz.le.refl _), hS20⟩ ⟨rfl, rfl, (look_bool rfl (by first | rfl | (rw [hb25]; first | done | rfl) | simp [hb25])), trivial⟩
   ·
    rcases Bool.eq_false_or_eq_true (decide (r12.2 ≠ 0)) with hb26 | hb26
    ·refine C_regionD (G := F19) [0, 1, 2, 3, 4, 5, 6, 7, 8, 9, 10, 11, 12, 13, 14, 15, 16, 17, 18, 20, 19, 21, 22, 23] rfl Ty.mixed (by kernel_rfl) hS20.agree ?_;refine qc ?_;refine qr (O_bin rfl rfl bI_neq) ?_;refine qc ?_;refine W_eqv (t := 37) (v' := .b false) rfl (congrArg Val.b hb25) ?_;refine qc ?_;refine qr (O_bin rfl rfl bI_neq) ?_;refine q2 ?_;refine W_eqv (t := 41) (v' := .b true) rfl (congrArg Val.b hb26) ?_;refine qz ?_;refine qz ?_;refine qz ?_;refine qz ?_;refine q2 ?_;refine qz ?_;refine qz ?_;refine qz ?_;refine q2 ?_;refine qz ?_;refine qz ?_;refine qz ?_;refine qz ?_;refine qz ?_;refine qc ?_;refine W_nil ?_;exact N_join _ ⟨rfl, F19, (Frz.le.refl _), hS20⟩ ⟨rfl, rfl, (look_bool rfl (by first | rfl | (rw [hb26, hb25]; first | done | rfl) | simp [hb25, hb26])), trivial⟩
    ·
     rcases Bool.eq_false_or_eq_true (!r21) with hb27 | hb27
     ·refine C_regionD (G := F19) [0, 1, 2, 3, 4, 5, 6, 7, 8, 9, 10, 11, 12, 13, 14, 15, 16, 17, 18, 20, 19, 21, 22, 23] rfl Ty.mixed (by kernel_rfl) hS20.agree ?_;refine qc ?_;refine qr (O_bin rfl rfl bI_neq) ?_;refine qc ?_;refine W_eqv (t := 37) (v' := .b false) rfl (congrArg Val.b hb25) ?_;refine qc ?_;refine qr (O_bin rfl rfl bI_neq) ?_;refine q2 ?_;refine W_eqv (t := 41) (v' := .b false) rfl (congrArg Val.b hb26) ?_;refine qq (O_bldg 0 (Catalog.cells r12.1 ur12_0_0 ur12_0_1 ur12_0_2 ur12_0_3) Ty.agg38 Ty.size38 (Nat.zero_lt_succ _) rfl hS20 rfl (fun q u h => sub_at (post := []) rfl h)) ?_;refine qq (O_bldg 1 (Catalog.cells r7.1 ur7_0_0 ur7_0_1 ur7_0_2 ur7_0_3) Ty.agg38 Ty.size38 (Nat.zero_lt_succ _) rfl hS20 rfl (fun q u h => sub_at (post := []) rfl h)) ?_;have hy28 := hr21;rw [only_t (by first | rfl | (rw [hb26, hb25]; first | done | rfl) | simp [hb25, hb26, hb27])] at hy28;refine ql (cellarerkeep_Catalog_ok hS20.good (hfr12_0_0.mono ((le17.trans le18).trans le19)) (hfr12_0_1.mono ((le17.trans le18).trans le19)) (hfr12_0_2.mono ((le17.trans le18).trans le19)) (hfr12_0_3.mono ((le17.trans le18).trans le19)) (hf17.mono (le18.trans le19)) (hf18.mono le19) hf19 (hf14.mono (((ler12.trans le17).trans le18).trans le19)) hy28) ?_;rintro v29 w29 ⟨Fr21, rfl, hT29⟩;have hS29 := hS20.lent hT29;refine Nxt.frz (Frz.le.refl _) hS29.agree ?_;refine q3 ?_;refine W_eqv (t := 47) (v' := .b true) rfl (congrArg Val.b hb27) ?_;refine qz ?_;refine qz ?_;refine qz ?_;refine q2 ?_;refine qz ?_;refine qz ?_;refine qz ?_;refine qz ?_;refine qz ?_;refine qc ?_;refine W_nil ?_;exact N_join _ ⟨rfl, F19, (Frz.le.refl _), hS29⟩ ⟨rfl, rfl, (look_bool rfl (by first | rfl | (rw [hb26, hb25, hb27]; first | done | rfl) | simp [hb25, hb26, hb27])), trivial⟩
     ·
      rcases Bool.eq_false_or_eq_true (decide (r12.1.seq ≠ 0)) with hb30 | hb30
      ·refine C_regionD (G := F19) [0, 1, 2, 3, 4, 5, 6, 7, 8, 9, 10, 11, 12, 13, 14, 15, 16, 17, 18, 20, 19, 21, 22, 23] rfl Ty.mixed (by kernel_rfl) hS20.agree ?_;refine qc ?_;refine qr (O_bin rfl rfl bI_neq) ?_;refine qc ?_;refine W_eqv (t := 37) (v' := .b false) rfl (congrArg Val.b hb25) ?_;refine qc ?_;refine qr (O_bin rfl rfl bI_neq) ?_;refine q2 ?_;refine W_eqv (t := 41) (v' := .b false) rfl (congrArg Val.b hb26) ?_;refine qq (O_bldg 0 (Catalog.cells r12.1 ur12_0_0 ur12_0_1 ur12_0_2 ur12_0_3) Ty.agg38 Ty.size38 (Nat.zero_lt_succ _) rfl hS20 rfl (fun q u h => sub_at (post := []) rfl h)) ?_;refine qq (O_bldg 1 (Catalog.cells r7.1 ur7_0_0 ur7_0_1 ur7_0_2 ur7_0_3) Ty.agg38 Ty.size38 (Nat.zero_lt_succ _) rfl hS20 rfl (fun q u h => sub_at (post := []) rfl h)) ?_;have hy31 := hr21;rw [only_t (by first | rfl | (rw [hb26, hb25]; first | done | rfl) | simp [hb25, hb26, hb27, hb30])] at hy31;refine ql (cellarerkeep_Catalog_ok hS20.good (hfr12_0_0.mono ((le17.trans le18).trans le19)) (hfr12_0_1.mono ((le17.trans le18).trans le19)) (hfr12_0_2.mono ((le17.trans le18).trans le19)) (hfr12_0_3.mono ((le17.trans le18).trans le19)) (hf17.mono (le18.trans le19)) (hf18.mono le19) hf19 (hf14.mono (((ler12.trans le17).trans le18).trans le19)) hy31) ?_;rintro v32 w32 ⟨Fr21, rfl, hT32⟩;have hS32 := hS20.lent hT32;refine Nxt.frz (Frz.le.refl _) hS32.agree ?_;refine q3 ?_;refine W_eqv (t := 47) (v' := .b false) rfl (congrArg Val.b hb27) ?_;refine qf Ty.field38_0 ?_;refine qbq 0 Ty.cell3 hS32 ?_;refine qr (O_bin rfl rfl bI_neq) ?_;refine q2 ?_;refine W_eqv (t := 52) (v' := .b true) rfl (congrArg Val.b hb30) ?_;refine qz ?_;refine qz ?_;refine qz ?_;refine qz ?_;refine qz ?_;refine qc ?_;refine W_nil ?_;exact N_join _ ⟨rfl, F19, (Frz.le.refl _), hS32⟩ ⟨rfl, rfl, (look_bool rfl (by first | rfl | (rw [hb30, hb26, hb25, hb27]; first | done | rfl) | simp [hb25, hb26, hb27, hb30])), trivial⟩
      ·have hb33 := hS20.boxAt 1 rfl;refine C_regionD (G := (F19.hold w16 [g8])) [0, 1, 2, 3, 4, 5, 6, 7, 8, 9, 10, 11, 12, 13, 14, 15, 16, 17, 18, 20, 19, 21, 22, 23] rfl Ty.mixed (by kernel_rfl) (HB.agree (HB.cons 1 hb33 hS20 rfl HB.nil) hS20.agree) ?_;refine qc ?_;refine qr (O_bin rfl rfl bI_neq) ?_;refine qc ?_;refine W_eqv (t := 37) (v' := .b false) rfl (congrArg Val.b hb25) ?_;refine qc ?_;refine qr (O_bin rfl rfl bI_neq) ?_;refine q2 ?_;refine W_eqv (t := 41) (v' := .b false) rfl (congrArg Val.b hb26) ?_;refine qq (O_bldg 0 (Catalog.cells r12.1 ur12_0_0 ur12_0_1 ur12_0_2 ur12_0_3) Ty.agg38 Ty.size38 (Nat.zero_lt_succ _) rfl hS20 rfl (fun q u h => sub_at (post := []) rfl h)) ?_;refine qq (O_bldg 1 (Catalog.cells r7.1 ur7_0_0 ur7_0_1 ur7_0_2 ur7_0_3) Ty.agg38 Ty.size38 (Nat.zero_lt_succ _) rfl hS20 rfl (fun q u h => sub_at (post := []) rfl h)) ?_;have hy34 := hr21;rw [only_t (by first | rfl | (rw [hb26, hb25]; first | done | rfl) | simp [hb25, hb26, hb27, hb30])] at hy34;refine ql (cellarerkeep_Catalog_ok hS20.good (hfr12_0_0.mono ((le17.trans le18).trans le19)) (hfr12_0_1.mono ((le17.trans le18).trans le19)) (hfr12_0_2.mono ((le17.trans le18).trans le19)) (hfr12_0_3.mono ((le17.trans le18).trans le19)) (hf17.mono (le18.trans le19)) (hf18.mono le19) hf19 (hf14.mono (((ler12.trans le17).trans le18).trans le19)) hy34) ?_;rintro v35 w35 ⟨Fr21, rfl, hT35⟩;have hS35 := hS20.lent hT35;refine qh 1 hb33 hS35 ?_;refine q3 ?_;refine W_eqv (t := 47) (v' := .b false) rfl (congrArg Val.b hb27) ?_;refine qf Ty.field38_0 ?_;refine qbq 0 Ty.cell3 hS35 ?_;refine qr (O_bin rfl rfl bI_neq) ?_;refine q2 ?_;refine W_eqv (t := 52) (v' := .b false) rfl (congrArg Val.b hb30) ?_;refine qq (O_bldg 1 (Catalog.cells r7.1 ur7_0_0 ur7_0_1 ur7_0_2 ur7_0_3) Ty.agg38 Ty.size38 (Nat.zero_lt_succ _) rfl hS35 rfl (fun q u h => sub_at (post := []) rfl h)) ?_;refine qr (O_fldg (Catalog.cells r7.1 ur7_0_0 ur7_0_1 ur7_0_2 ur7_0_3) Ty.agg38 Ty.size38 (Nat.zero_lt_succ _) rfl (hb33.held (HB.cons 1 hb33 hS35 rfl HB.nil) (by simp)) (fun q u h => sub_at (post := []) rfl h)) ?_;have hy36 := hr22;rw [only_t (by first | rfl | (rw [hb30, hb26, hb25, hb27]; first | done | rfl) | simp [hb25, hb26, hb27, hb30])] at hy36;refine ql (rebuild_Part_ok hS35.good (hf17.mono (le18.trans le19)) (hf18.mono le19) hf19 (hf14.mono (((ler12.trans le17).trans le18).trans le19)) hy36) ?_;rintro v37 w37 ⟨Fr22, ur22_0_0, ur22_0_1, ur22_0_2, ur22_0_3, rfl, hfr22_0_0, hfr22_0_1, hfr22_0_2, hfr22_0_3, hT37⟩;have hS37 := hS35.call hT37
       have ler22 := hT37.ext;refine Nxt.frz (HB.le (HB.cons 1 hb33 hS37 rfl HB.nil) ler22) (HB.agree (HB.cons 1 hb33 hS37 rfl HB.nil) hS37.agree) ?_;have hy38 := hr23;rw [only_t (by first | rfl | (rw [hb30, hb26, hb25, hb27]; first | done | rfl) | simp [hb25, hb26, hb27, hb30])] at hy38;refine ql (cellarerkeep_Catalog_ok hS37.good hfr22_0_0 hfr22_0_1 hfr22_0_2 hfr22_0_3 (hf17.mono ((le18.trans le19).trans ler22)) (hf18.mono (le19.trans ler22)) (hf19.mono ler22) (hf14.mono ((((ler12.trans le17).trans le18).trans le19).trans ler22)) hy38) ?_;rintro v39 w39 ⟨Fr23, rfl, hT39⟩;have hS39 := hS37.lent hT39;refine qh 1 hb33 hS39 ?_;refine q2 ?_;refine W_nil ?_;exact N_join _ ⟨rfl, Fr22, ler22, hS39⟩ ⟨rfl, rfl, (look_bool rfl (by first | rfl | (rw [hb30, hb26, hb25, hb27]; first | done | rfl) | simp [hb25, hb26, hb27, hb30])), trivial⟩
  rintro E w24 ⟨rfl, F24, le24, hS24⟩;refine N_code ?_;refine C_cond rfl (fun hc40 => ?_) (fun hc40 => ?_)
  ·rw [if_t hc40] at H;refine qs ?_;refine qm ?_;obtain rfl := oi H;refine C_ret rfl rfl ?_;exact ⟨F24, rfl, hS24.pick [] (by decide)⟩
  ·rw [if_f hc40] at H;refine qk ?_;refine qs ?_;refine qm ?_;refine C_seq_join (fun E wq => ∃ l42 : List Found, cellarerlaw24_RebuildEmpty.k1 r7 l42 = some r ∧ ∃ (F41 : Frz) (u43 : Val), E = [(5, pl g8 0), (9, u43)] ∧ F24.le F41 ∧ St [] w F F41 [.box g8 [.i .i64 r7.1.seq, ur7_0_0, ur7_0_1, ur7_0_2, ur7_0_3], .row Found.t u43 l42] wq) ?_ ?_
   ·refine qs ?_;refine qm ?_;refine C_block ?_;refine C_loopM (fun (s : (List Found) × Int) E wq => ∃ (F67 : Frz) (u69 : Val), E = [(1, v1), (5, pl g8 0), (9, u69), (10, .i .i64 s.2)] ∧ F24.le F67 ∧ St [] w F F67 [.box g8 [.i .i64 r7.1.seq, ur7_0_0, ur7_0_1, ur7_0_2, ur7_0_3], .row Found.t u69 s.1] wq) H ?_ ?_
    ·have hS112 := hS24.nilRow Found.t;exact ⟨_, ⟨F24, (.sl none 0 (.k 0)), rfl, (Frz.le.refl _), hS112.pick [2, 0] (by decide)⟩, ⟨rfl, rfl, rfl, rfl, trivial⟩⟩
    ·rintro rec72 ⟨l68, i71⟩ E w67 hI H
     try dsimp only at hI
     obtain ⟨F67, u69, rfl, le67, hS67⟩ := hI;dsimp only [cellarerlaw24_RebuildEmpty.l2] at H;refine C_seq ?_;refine qs ?_;refine q2 ?_;refine qr (O_len Tryz.underlying95 rfl h1.ln) ?_;refine qr (O_bin rfl rfl bI_lss) ?_;refine qn ?_;refine C_cond rfl (fun hc73 => ?_) (fun hc73 => ?_)
     ·rw [if_t hc73] at H;refine qk ?_;refine C_seq ?_;refine C_block ?_;refine C_seq ?_;refine C_seq ?_;obtain ⟨x74, hx74, H⟩ := bd_some H;refine qd ?_;refine q2 ?_;obtain ⟨hp76, hy76⟩ := ix_some hx74;obtain ⟨cs76, hr76, he76⟩ := (h1.mono (((((((((ler5.trans le9).trans ler7).trans le14).trans ler12).trans le17).trans le18).trans le19).trans le24).trans le67)).el hy76;obtain ⟨ue75, rfl, hue75⟩ := hr76;replace he76 : Elf _ _ 1 _ _ := he76;have hi76 := he76.ixd;refine qi Tryz.underlying95 Ty.size47 hi76 hp76 ?_;refine qr (O_ld1 0 Ty.cell47 rfl (he76.mono hS67.agree) (by omega) rfl) ?_;refine qr (O_len Tryz.underlying47 rfl hue75.ln) ?_;refine qr (O_bin rfl rfl bI_gtr) ?_;refine qn ?_;refine C_cond rfl (fun hc77 => ?_) (fun hc77 => ?_)
      ·rw [if_t hc77] at H;refine qs ?_;refine qm ?_;obtain rfl := oi H;refine C_ret rfl rfl ?_;exact ⟨F67, rfl, hS67.pick [] (by decide)⟩
      ·rw [if_f hc77] at H;refine qk ?_;refine C_seq ?_;obtain ⟨l78, hl78, H⟩ := bd_some H;obtain ⟨x80, hx80, H⟩ := bd_some H;obtain ⟨l82, hl82, H⟩ := bd_some H;refine C_regionD (G := F67) [0, 1, 2, 3, 4, 5, 6] rfl Ty.mixed (by kernel_rfl) hS67.agree ?_;refine qx (E_mk (t := tB) (x0 := 0) Tryz.underlying47 Ty.row5 rfl rfl (zero_rel Ty.zero5 rfl) hl78 hS67) ?_;rintro v79 w79 hS79;refine Nxt.frz (Frz.le.refl _) hS79.agree ?_;refine q2 ?_;obtain ⟨hp84, hy84⟩ := ix_some hx80;obtain ⟨cs84, hr84, he84⟩ := (h1.mono (((((((((ler5.trans le9).trans ler7).trans le14).trans ler12).trans le17).trans le18).trans le19).trans le24).trans le67)).el hy84;obtain ⟨ue81, rfl, hue81⟩ := hr84;replace he84 : Elf _ _ 1 _ _ := he84;have hi84 := he84.ixd;refine qi Tryz.underlying95 Ty.size47 hi84 hp84 ?_;refine qq (O_ld1 0 Ty.cell47 rfl (he84.mono hS79.agree) (by omega) rfl) ?_;refine qx (E_app (t := tB) 0 Tryz.underlying47 Ty.row5 Ty.zk47 rfl rfl hS79 rfl (hue81.src hS79.agree) hl82) ?_;rintro v83 w83 hS83;refine Nxt.frz (Frz.le.refl _) hS83.agree ?_;refine qm ?_;obtain ⟨x86, hx86, H⟩ := bd_some H;obtain ⟨l89, hl89, H⟩ := bd_some H;obtain ⟨l91, hl91, H⟩ := bd_some H;obtain ⟨l94, hl94, H⟩ := bd_some H;refine C_regionD (G := F67) [0, 1, 2, 3, 4, 5, 6, 7, 8, 12, 13, 14, 15, 16, 20, 21, 22, 23, 24, 25, 26, 27, 28, 29, 30, 31, 32, 33, 9, 10, 11, 17, 18, 19, 34, 35, 36] rfl Ty.mixed (by kernel_rfl) hS83.agree ?_;refine q2 ?_;have hcl96 := (hS83.rowLn (k := 0) rfl).cells;refine qr (O_build (vs := [(0, .i .i64 1), (2, v83)]) (v := .agg (Record.cells (Record.mk 1 0 l82) v83)) Ty.bld49 rfl (by simp only [fillV, hcl96]; rfl)) ?_;have hcl97 := (hS83.rowLn (k := 0) rfl).cells;refine qr (O_build (vs := [(0, .agg (Record.cells (Record.mk 1 0 l82) v83))]) (v := .agg (Found.cells (Found.mk (Record.mk 1 0 l82) (Loc.mk 0 0 0 0)) v83)) Ty.bld53 rfl (by simp only [fillV, hcl97]; rfl)) ?_;refine qx (E_bs (t := tB) (vs := [.i .u8 ((0 : UInt8).toNat : Int), .i .u8 ((0 : UInt8).toNat : Int), .i .u8 ((0 : UInt8).toNat : Int), .i .u8 ((0 : UInt8).toNat : Int), .i .u8 ((0 : UInt8).toNat : Int)]) (xs := [(0 : UInt8), (0 : UInt8), (0 : UInt8), (0 : UInt8), (0 : UInt8)]) Tryz.underlying47 Ty.row5 rfl (by exact ⟨rfl, ⟨rfl, ⟨rfl, ⟨rfl, ⟨rfl, trivial⟩⟩⟩⟩⟩) rfl rfl hS83) ?_;rintro u85 w85 hS85;refine Nxt.frz (Frz.le.refl _) hS85.agree ?_;refine q2 ?_;obtain ⟨hp98, hy98⟩ := ix_some hx86;obtain ⟨cs98, hr98, he98⟩ := (h1.mono (((((((((ler5.trans le9).trans ler7).trans le14).trans ler12).trans le17).trans le18).trans le19).trans le24).trans le67)).el hy98
       obtain ⟨ue87, rfl, hue87⟩ := hr98;replace he98 : Elf _ _ 1 _ _ := he98;have hi98 := he98.ixd;refine qi Tryz.underlying95 Ty.size47 hi98 hp98 ?_;refine qq (O_ld1 0 Ty.cell47 rfl (he98.mono hS85.agree) (by omega) rfl) ?_;refine qx (E_bs (t := tB) (vs := [.i .u8 ((255 : UInt8).toNat : Int)]) (xs := [(255 : UInt8)]) Tryz.underlying47 Ty.row5 rfl ⟨rfl, trivial⟩ rfl rfl hS85) ?_;rintro u88 w88 hS88;refine Nxt.frz (Frz.le.refl _) hS88.agree ?_;refine q2 ?_;refine qi Tryz.underlying95 Ty.size47 hi98 hp98 ?_;refine qr (O_ld1 0 Ty.cell47 rfl he98 (by omega) rfl) ?_;refine q2 ?_;refine qi Tryz.underlying95 Ty.size47 hi98 hp98 ?_;refine qr (O_ld1 0 Ty.cell47 rfl he98 (by omega) rfl) ?_;have hcl99 := hue87.ln.cells;refine qr (O_build (vs := [(0, .i .i64 4), (1, .i .i64 3), (2, ue87)]) (v := .agg (Record.cells (Record.mk 4 3 x86) ue87)) Ty.bld49 rfl (by simp only [fillV, hcl99]; rfl)) ?_;have hcl100 := hue87.ln.cells;refine qr (O_build (vs := [(0, .agg (Record.cells (Record.mk 4 3 x86) ue87))]) (v := .agg (Found.cells (Found.mk (Record.mk 4 3 x86) (Loc.mk 0 0 0 0)) ue87)) Ty.bld53 rfl (by simp only [fillV, hcl100]; rfl)) ?_;refine q2 ?_;refine qi Tryz.underlying95 Ty.size47 hi98 hp98 ?_;refine qr (O_ld1 0 Ty.cell47 rfl he98 (by omega) rfl) ?_;have hcl101 := hue87.ln.cells;refine qr (O_build (vs := [(0, .i .i64 5), (1, .i .i64 3), (2, ue87)]) (v := .agg (Record.cells (Record.mk 5 3 x86) ue87)) Ty.bld49 rfl (by simp only [fillV, hcl101]; rfl)) ?_;have hcl102 := hue87.ln.cells;refine qr (O_build (vs := [(0, .agg (Record.cells (Record.mk 5 3 x86) ue87))]) (v := .agg (Found.cells (Found.mk (Record.mk 5 3 x86) (Loc.mk 0 0 0 0)) ue87)) Ty.bld53 rfl (by simp only [fillV, hcl102]; rfl)) ?_;refine W_c (v := .agg (Record.cells (Record.mk 1 0 []) (.sl none 0 (.k 0)))) rfl rfl rfl rfl (fun _ => rfl) ?_;refine W_c (v := .agg (Found.cells (Found.mk (Record.mk 1 0 []) (Loc.mk 0 0 0 0)) (.sl none 0 (.k 0)))) rfl rfl rfl rfl (fun _ => rfl) ?_;refine qx (E_app (t := tB) 1 Tryz.underlying47 Ty.row5 Ty.zk47 rfl rfl hS88 rfl (hue87.src hS88.agree) hl89) ?_;rintro v90 w90 hS90;refine Nxt.frz (Frz.le.refl _) hS90.agree ?_;have hcl103 := (hS90.rowLn (k := 1) rfl).cells;refine qr (O_build (vs := [(0, .i .i64 3), (1, .i .i64 5), (2, v90)]) (v := .agg (Record.cells (Record.mk 3 5 l89) v90)) Ty.bld49 rfl (by simp only [fillV, hcl103]; rfl)) ?_;have hcl104 := (hS90.rowLn (k := 1) rfl).cells;refine qr (O_build (vs := [(0, .agg (Record.cells (Record.mk 3 5 l89) v90))]) (v := .agg (Found.cells (Found.mk (Record.mk 3 5 l89) (Loc.mk 0 0 0 0)) v90)) Ty.bld53 rfl (by simp only [fillV, hcl104]; rfl)) ?_
       refine qx (E_app (t := tB) 0 Tryz.underlying47 Ty.row5 Ty.zk47 rfl rfl hS90 rfl (hue87.src hS90.agree) hl91) ?_;rintro v92 w92 hS92;refine Nxt.frz (Frz.le.refl _) hS92.agree ?_;have hcl105 := (hS92.rowLn (k := 0) rfl).cells;refine qr (O_build (vs := [(0, .i .i64 2), (1, .i .i64 7), (2, v92)]) (v := .agg (Record.cells (Record.mk 2 7 l91) v92)) Ty.bld49 rfl (by simp only [fillV, hcl105]; rfl)) ?_;have hcl106 := (hS92.rowLn (k := 0) rfl).cells;refine qr (O_build (vs := [(0, .agg (Record.cells (Record.mk 2 7 l91) v92))]) (v := .agg (Found.cells (Found.mk (Record.mk 2 7 l91) (Loc.mk 0 0 0 0)) v92)) Ty.bld53 rfl (by simp only [fillV, hcl106]; rfl)) ?_;obtain ⟨F107, le107, hf107, hS107⟩ := hS92.freezeR 2 [0, 1, 3, 4] rfl (by decide) (by decide);refine W_rg le107 hS107.agree ?_;obtain ⟨F108, le108, hf108, hS108⟩ := hS107.freezeR 1 [0, 2, 3] rfl (by decide) (by decide);refine W_rg le108 hS108.agree ?_;obtain ⟨F109, le109, hf109, hS109⟩ := hS108.freezeR 0 [1, 2] rfl (by decide) (by decide);refine W_rg le109 hS109.agree ?_;have hS110 : St [] w F F109 [.box g8 [.i .i64 r7.1.seq, ur7_0_0, ur7_0_1, ur7_0_2, ur7_0_3], .row Found.t u69 l68] _ := hS109;refine qx (E_bs (t := Found.t) (vs := [.agg (Found.cells (Found.mk (Record.mk 1 0 l82) (Loc.mk 0 0 0 0)) v83), .agg (Found.cells (Found.mk (Record.mk 3 5 l89) (Loc.mk 0 0 0 0)) v90), .agg (Found.cells (Found.mk (Record.mk 2 7 l91) (Loc.mk 0 0 0 0)) v92), .agg (Found.cells (Found.mk (Record.mk 4 3 x86) (Loc.mk 0 0 0 0)) ue87), .agg (Found.cells (Found.mk (Record.mk 5 3 x86) (Loc.mk 0 0 0 0)) ue87), .agg (Found.cells (Found.mk (Record.mk 1 0 []) (Loc.mk 0 0 0 0)) (.sl none 0 (.k 0)))]) (xs := [(Found.mk (Record.mk 1 0 l82) (Loc.mk 0 0 0 0)), (Found.mk (Record.mk 3 5 l89) (Loc.mk 0 0 0 0)), (Found.mk (Record.mk 2 7 l91) (Loc.mk 0 0 0 0)), (Found.mk (Record.mk 4 3 x86) (Loc.mk 0 0 0 0)), (Found.mk (Record.mk 5 3 x86) (Loc.mk 0 0 0 0)), (Found.mk (Record.mk 1 0 []) (Loc.mk 0 0 0 0))]) Tryz.underlying27 Ty.row53 rfl (by exact ⟨⟨v83, rfl, (hf107.mono (le108.trans le109))⟩, ⟨⟨v90, rfl, (hf108.mono le109)⟩, ⟨⟨v92, rfl, hf109⟩, ⟨⟨ue87, rfl, (hue87.mono ((le107.trans le108).trans le109))⟩, ⟨⟨ue87, rfl, (hue87.mono ((le107.trans le108).trans le109))⟩, ⟨⟨.sl none 0 (.k 0), rfl, (SlF.nil _)⟩, trivial⟩⟩⟩⟩⟩⟩) rfl rfl hS110) ?_;rintro u93 w93 hS93;refine Nxt.frz (Frz.le.refl _) hS93.agree ?_;refine qx (E_app (t := Found.t) 2 Tryz.underlying27 Ty.row53 Ty.zk27 rfl rfl hS93 rfl (hS93.rowSrc (k := 0) rfl) hl94) ?_
       rintro v95 w95 hS95;refine Nxt.frz (Frz.le.refl _) hS95.agree ?_;refine qc ?_;refine W_nil ?_;refine N_block ?_;refine N_code ?_;refine qd ?_;refine q3 ?_;refine W_nil ?_;exact N_againM (l94, wr (i71 + 1)) _ H ⟨F109, v95, rfl, (((le67.trans le107).trans le108).trans le109), hS95.pick [1, 2] (by decide)⟩ ⟨rfl, rfl, rfl, rfl, trivial⟩
     ·rw [if_f hc73] at H;refine C_exit _ rfl ?_;exact N_join _ ⟨l68, H, ⟨F67, u69, rfl, le67, hS67⟩⟩ ⟨rfl, rfl, trivial⟩
   ·rintro E w41 ⟨l42, H, F41, u43, rfl, le41, hS41⟩;dsimp only [cellarerlaw24_RebuildEmpty.k1] at H;refine C_seq ?_;obtain ⟨r45, hr45, H⟩ := bd_some H;refine qd ?_;refine qf Ty.field38_4 ?_;refine qb 0 Ty.cell33 hS41 ?_;refine qc ?_;obtain ⟨F47, le47, hf47, hS47⟩ := hS41.freezeR 1 [0] rfl (by decide) (by decide);refine lm (rebuild_From_ok hS47.good (hf14.mono ((((((ler12.trans le17).trans le18).trans le19).trans le24).trans le41).trans le47)) hf47 hr45) ?_;rintro v48 w48 ⟨Fr45, ur45_0_0, ur45_0_1, ur45_0_2, ur45_0_3, rfl, hfr45_0_0, hfr45_0_1, hfr45_0_2, hfr45_0_3, hT48⟩;have hS48 := hS47.call hT48;have ler45 := hT48.ext;refine q3 ?_;refine xm (E_alc (cs := [.i .i64 0, .sl none 0 (.k 0), .sl none 0 (.k 0), .sl none 0 (.k 0), .sl none 0 (.k 0)]) Ty.zero38 rfl hS48) ?_;rintro _ w46 ⟨g46, rfl, hS46⟩;refine um (E_bst (c := [.i .i64 r45.1.seq, ur45_0_0, ur45_0_1, ur45_0_2, ur45_0_3]) 0 ([.i .i64 r45.1.seq, ur45_0_0, ur45_0_1, ur45_0_2, ur45_0_3]) rfl rfl hS46 rfl rfl Ty.size38 (by simp only [List.all_cons, List.all_nil, List.all_append, hfr45_0_0.ln.one, hfr45_0_1.ln.one, hfr45_0_2.ln.one, hfr45_0_3.ln.one]; rfl) rfl rfl) ?_;rintro _ w49 hS49;refine qm ?_;refine C_seq ?_;obtain ⟨r50, hr50, H⟩ := bd_some H;obtain ⟨r51, hr51, H⟩ := bd_some H;refine qd ?_;refine qc ?_;refine qr (O_bin rfl rfl bI_eql) ?_;refine qc ?_;refine W_gs (v := .agg (Catalog.cells r45.1 ur45_0_0 ur45_0_1 ur45_0_2 ur45_0_3)) rfl rfl rfl rfl (fun ⟨hb52, _⟩ => ?_) ?_
    ·rw [hb52];intro hK;refine qr (O_bldg 0 (Catalog.cells r45.1 ur45_0_0 ur45_0_1 ur45_0_2 ur45_0_3) Ty.agg38 Ty.size38 (Nat.zero_lt_succ _) rfl hS49 rfl (fun q u h => sub_at (post := []) rfl h)) ?_;exact hK
    refine W_gs (v := .agg (Catalog.cells r7.1 ur7_0_0 ur7_0_1 ur7_0_2 ur7_0_3)) rfl rfl rfl rfl (fun ⟨hb53, _⟩ => ?_) ?_
    ·rw [hb53];intro hK;refine qr (O_bldg 1 (Catalog.cells r7.1 ur7_0_0 ur7_0_1 ur7_0_2 ur7_0_3) Ty.agg38 Ty.size38 (Nat.zero_lt_succ _) rfl hS49 rfl (fun q u h => sub_at (post := []) rfl h)) ?_;exact hK
    obtain ⟨Q55, hQ55⟩ : ∃ Q : Hp → Prop, Q = fun wq => St [] w F Fr45 [.box g46 [.i .i64 r45.1.seq, ur45_0_0, ur45_0_1, ur45_0_2, ur45_0_3], .box g8 [.i .i64 r7.1.seq, ur7_0_0, ur7_0_1, ur7_0_2, ur7_0_3]] wq := ⟨_, rfl⟩;refine W_gw (v := .b r50) (Q := Q55) (by rw [hQ55]; exact hS49) rfl rfl rfl rfl (fun ⟨hb54, _⟩ => ?_) ?_
    ·rw [hb54];intro hK;have hy56 := hr50;rw [only_t hb54] at hy56;refine ql (cellarerkeep_Catalog_ok hS49.good hfr45_0_0 hfr45_0_1 hfr45_0_2 hfr45_0_3 (hf17.mono (((((le18.trans le19).trans le24).trans le41).trans le47).trans ler45)) (hf18.mono ((((le19.trans le24).trans le41).trans le47).trans ler45)) (hf19.mono (((le24.trans le41).trans le47).trans ler45)) (hf14.mono (((((((ler12.trans le17).trans le18).trans le19).trans le24).trans le41).trans le47).trans ler45)) hy56) ?_;rintro v57 w57 ⟨Fr50, rfl, hT57⟩;have hS57 := hS49.lent hT57;exact hK _ (by rw [hQ55]; exact hS57)
    intro w58 hS58;rw [hQ55] at hS58;refine Nxt.now ?_;refine W_pkA rfl rfl rfl rfl rfl (fun hc => by rw [hc]; rfl) rfl ?_;refine qc ?_;refine W_gs (v := pl g46 (0 + 0)) rfl rfl rfl rfl (fun ⟨hb59, _⟩ => ?_) ?_
    ·rw [hb59];intro hK;refine qf Ty.field38_0 ?_;exact hK
    refine W_gs (v := .i .i64 r45.1.seq) rfl rfl rfl rfl (fun ⟨hb60, _⟩ => ?_) ?_
    ·rw [hb60];intro hK;refine qb 0 Ty.cell3 hS58 ?_;exact hK
    refine W_gs (v := .b (decide (r45.1.seq = 0))) rfl rfl rfl rfl (fun ⟨hb61, _⟩ => ?_) ?_
    ·rw [hb61];intro hK;refine qr (O_bin rfl rfl bI_eql) ?_;exact hK
    refine W_pkA rfl rfl rfl rfl rfl (fun hc => by rw [hc]; rfl) rfl ?_;refine qc ?_;obtain ⟨Q63, hQ63⟩ : ∃ Q : Hp → Prop, Q = fun wq => St [] w F Fr45 [.box g46 [.i .i64 r45.1.seq, ur45_0_0, ur45_0_1, ur45_0_2, ur45_0_3], .box g8 [.i .i64 r7.1.seq, ur7_0_0, ur7_0_1, ur7_0_2, ur7_0_3]] wq := ⟨_, rfl⟩;refine W_gw (v := .b r51) (Q := Q63) (by rw [hQ63]; exact hS58) rfl rfl rfl rfl (fun ⟨hb62, _⟩ => ?_) ?_
    ·rw [hb62];intro hK;have hy64 := hr51;rw [only_t hb62] at hy64;refine ql (cellarerlaw24_wakes_ok hS58.good hy64) ?_;rintro v65 w65 ⟨Fr51, rfl, hT65⟩;have hS65 := hS58.lent hT65;exact hK _ (by rw [hQ63]; exact hS65)
    intro w66 hS66;rw [hQ63] at hS66;refine Nxt.now ?_;refine W_pkA rfl rfl rfl rfl rfl (fun hc => by rw [hc]; rfl) rfl ?_;refine qm ?_;obtain rfl := oi H;refine C_ret rfl rfl ?_;exact ⟨Fr45, rfl, hS66.pick [] (by decide)⟩
end
end Go.Wk.Lf
end
section
namespace Go.Wk
theorem iter_rule {S A : Type} {F : (S → Option A) → S → Option A} (Inv : S → Prop) (m : S → Nat) (g : S → Option A) (h : ∀ rec s, Inv s → (∀ s', Inv s' → m s' < m s → rec s' = g s') → F rec s = g s) : ∀ n s, Inv s → m s < n → iter F n s = g s := by
 intro n
 induction n with
 | zero => intro s _ hm; omega
 | succ n ih => intro s hs hm; exact h (iter F n) s hs fun s' hs' hlt => ih s' hs' (by omega)
theorem loop_rule {S A : Type} {F : (S → Option A) → S → Option A} {s0 : S} (Inv : S → Prop) (m : S → Nat) (g : S → Option A) (h0 : Inv s0) (hm : m s0 < 4611686018427387904) (h : ∀ rec s, Inv s → (∀ s', Inv s' → m s' < m s → rec s' = g s') → F rec s = g s) : loop F s0 = g s0 :=
 iter_rule Inv m g h _ s0 h0 hm
theorem loop_const {S A : Type} {F : (S → Option A) → S → Option A} {s0 : S} {a : Option A} (Inv : S → Prop) (m : S → Nat) (h0 : Inv s0) (hm : m s0 < 4611686018427387904) (h : ∀ rec s, Inv s → (∀ s', Inv s' → m s' < m s → rec s' = a) → F rec s = a) : loop F s0 = a :=
 loop_rule Inv m (fun _ => a) h0 hm h
@[simp] theorem bd_mk {α β : Type} (x : α) (f : α → Option β) : bd (some x) f = f x := rfl
theorem bd_eq {α β : Type} {o : Option α} {x : α} (h : o = some x) (f : α → Option β) : bd o f = f x := by rw [h]; rfl
theorem wr_id {x : Int} (h0 : -9223372036854775808 ≤ x) (h1 : x ≤ 9223372036854775807) : wr x = x := i64_id h0 h1
theorem app_ok {α : Type} {xs ys : List α} (h : xs.length + ys.length ≤ 1073741824) : app xs ys = some (xs ++ ys) := if_pos h
theorem cut_ok {α : Type} {l : List α} {a b : Int} (h0 : 0 ≤ a) (h1 : a ≤ b) (h2 : b ≤ (l.length : Int)) : cut l a b = some ((l.take b.toNat).drop a.toNat) := if_pos ⟨h0, h1, h2⟩
theorem rep_ok {α : Type} {n : Int} {x : α} (h0 : 0 ≤ n) (h1 : n ≤ 1073741824) : rep n x = some (List.replicate n.toNat x) := if_pos ⟨h0, h1⟩
theorem lt_t {n m : Nat} (h : n < m) : decide ((n : Int) < (m : Int)) = true := decide_eq_true (by omega)
theorem lt_f {n m : Nat} (h : ¬ n < m) : decide ((n : Int) < (m : Int)) = false := decide_eq_false (by omega)
theorem ix_lt {α : Type} {l : List α} {n : Nat} (h : n < l.length) : ix l (n : Int) = some l[n] := List.getElem?_eq_getElem h
theorem wr_succ {n : Nat} (h : n < 4611686018427387904) : wr ((n : Int) + 1) = ((n + 1 : Nat) : Int) := by rw [wr_id (by omega) (by omega)]; rfl
theorem wr_pred {n : Nat} (h0 : 0 < n) (h : n < 4611686018427387904) : wr ((n : Int) - 1) = ((n - 1 : Nat) : Int) := by rw [wr_id (by omega) (by omega)]; omega
theorem iter_for {S σ A : Type} {F : (S → Option A) → S → Option A} (mk : Nat → σ → S) (n : Nat) (Inv : Nat → σ → Prop) (Post : Option A → Prop)
  (hstep : ∀ rec i s, i < n → Inv i s → (∀ s', Inv (i + 1) s' → Post (rec (mk (i + 1) s'))) → Post (F rec (mk i s))) (hend : ∀ rec s, Inv n s → Post (F rec (mk n s))) : ∀ k i s, i ≤ n → n - i < k → Inv i s → Post (iter F k (mk i s)) := by
 intro k
 induction k with
 | zero => intro i s _ h _; omega
 | succ k ih =>
  intro i s hi hk hI
  by_cases h : i = n
  ·subst h; exact hend (iter F k) s hI
  ·exact hstep (iter F k) i s (by omega) hI fun s' hs' => ih (i + 1) s' (by omega) (by omega) hs'
theorem loop_for {S σ A : Type} {F : (S → Option A) → S → Option A} (mk : Nat → σ → S) (n : Nat) (Inv : Nat → σ → Prop) (Post : Option A → Prop) {i0 : Nat} {s0 : σ} {x0 : S} (hx : x0 = mk i0 s0) (hi0 : i0 ≤ n) (h0 : Inv i0 s0) (hn : n < 4611686018427387904)
  (hstep : ∀ rec i s, i < n → Inv i s → (∀ s', Inv (i + 1) s' → Post (rec (mk (i + 1) s'))) → Post (F rec (mk i s))) (hend : ∀ rec s, Inv n s → Post (F rec (mk n s))) : Post (loop F x0) :=
 hx ▸ iter_for mk n Inv Post hstep hend _ i0 s0 hi0 (by omega) h0
theorem loop_eq {S σ A : Type} {F : (S → Option A) → S → Option A} (mk : Nat → σ → S) (n : Nat) (Inv : Nat → σ → Prop) (a : Option A) {i0 : Nat} {s0 : σ} {x0 : S} (hx : x0 = mk i0 s0) (hi0 : i0 ≤ n) (h0 : Inv i0 s0) (hn : n < 4611686018427387904)
  (hstep : ∀ rec i s, i < n → Inv i s → (∀ s', Inv (i + 1) s' → rec (mk (i + 1) s') = a) → F rec (mk i s) = a) (hend : ∀ rec s, Inv n s → F rec (mk n s) = a) : loop F x0 = a := by
 exact loop_for mk n Inv (fun o => o = a) hx hi0 h0 hn hstep hend
theorem take_snoc' {α : Type} {l : List α} {i : Nat} (h : i < l.length) : l.take (i + 1) = l.take i ++ [l[i]] := List.take_succ_eq_append_getElem h
end Go.Wk
end
section

end
section
namespace Go.Wk.Lf
open Go.V Go.Sort Go.Proofs
theorem loop_all {S A : Type} {F : (S → Option A) → S → Option A} (mk : Nat → S) (n : Nat) (ok : Nat → Bool) (K B : Option A) {x0 : S} (hx : x0 = mk 0) (hn : n < 4611686018427387904)
  (hstep : ∀ rec i, i < n → F rec (mk i) = if ok i = true then rec (mk (i + 1)) else B) (hend : ∀ rec, F rec (mk n) = K) : loop F x0 = if (∀ i, i < n → ok i = true) then K else B := by
 refine loop_eq (σ := Unit) (fun i _ => mk i) n (fun i _ => ∀ j, j < i → ok j = true) _ (i0 := 0) (s0 := ()) hx (Nat.zero_le _) (by intro j h; omega) hn ?_ ?_
 ·intro rec i _ hi hI hrec
  rw [hstep rec i hi]
  by_cases h : ok i = true
  ·rw [if_pos h]
   exact hrec () fun j hj => by
    rcases (by omega : j < i ∨ j = i) with h1 | rfl
    ·exact hI j h1
    ·exact h
  ·rw [if_neg h, if_neg fun hall => h (hall i hi)]
 ·intro rec _ hI
  rw [hend, if_pos hI]
theorem all_iff {α : Type} (l : List α) (p : α → Bool) (q : Nat → Bool) (h : ∀ i (hi : i < l.length), q i = p l[i]) : (∀ i, i < l.length → q i = true) ↔ l.all p = true := by
 rw [List.all_eq_true]
 constructor
 ·intro h1 x hx
  obtain ⟨i, hi, rfl⟩ := List.getElem_of_mem hx
  rw [← h i hi]; exact h1 i hi
 ·intro h1 i hi
  rw [h i hi]; exact h1 _ (List.getElem_mem hi)
def seen (b : UInt8) : Bool := decide (33 ≤ b.toNat) && decide (b.toNat ≤ 126)
def nameB (s : List UInt8) : Bool := (decide (1 ≤ s.length) && decide (s.length ≤ 20)) && s.all seen
theorem name_eq (s : List UInt8) : tree_Name s = some (nameB s) := by
 unfold tree_Name nameB
 by_cases h1 : s.length < 1 ∨ 20 < s.length
 ·rw [if_pos (by simp only [Bool.or_eq_true, decide_eq_true_eq]; omega)]
  have : (decide (1 ≤ s.length) && decide (s.length ≤ 20)) = false := by
   simp only [Bool.and_eq_false_iff, decide_eq_false_iff_not]; omega
  rw [this]; rfl
 ·rw [if_neg (by simp only [Bool.or_eq_true, decide_eq_true_eq]; omega)]
  have h2 : (decide (1 ≤ s.length) && decide (s.length ≤ 20)) = true := by
   simp only [Bool.and_eq_true, decide_eq_true_eq]; omega
  rw [h2, Bool.true_and]
  rw [loop_all (x0 := (0 : Int)) (fun i => (i : Int)) s.length (fun i => seen (s.getD i 0)) (some true) (some false) rfl (by omega) ?_ ?_]
  ·by_cases h : s.all seen = true
   ·rw [h, if_pos ((all_iff s seen _ fun i hi => by simp [hi]).2 h)]
   ·rw [Bool.not_eq_true] at h
    rw [h, if_neg fun h3 => by rw [(all_iff s seen _ fun i hi => by simp [hi]).1 h3] at h; cases h]
  ·intro rec i hi
   simp only [tree_Name.l2]
   rw [if_t (lt_t hi), ix_lt hi, bd_mk]
   simp only [hi, List.getD_eq_getElem?_getD, List.getElem?_eq_getElem, Option.getD_some, seen]
   by_cases h33 : (s[i].toNat : Int) < 33
   ·rw [only_f (by simp; omega), bd_mk, if_pos (by simp [h33])]
    rw [if_neg (by simp only [Bool.and_eq_true, decide_eq_true_eq]; omega)]
   ·rw [only_t (by simp; omega), bd_mk]
    by_cases h126 : (126 : Int) < (s[i].toNat : Int)
    ·rw [if_pos (by simp [h126]), if_neg (by simp only [Bool.and_eq_true, decide_eq_true_eq]; omega)]
    ·rw [if_neg (by simp only [Bool.or_eq_true, decide_eq_true_eq]; omega), if_pos (by simp only [Bool.and_eq_true, decide_eq_true_eq]; omega), wr_succ (by omega)]
  ·intro rec
   simp only [tree_Name.l2, tree_Name.k1]
   rw [if_f (lt_f (Nat.lt_irrefl _))]
theorem cloneB_eq (l : List UInt8) (hl : l.length ≤ 1073741824) : slices_Clone_byte_byte l = some l := by
 unfold slices_Clone_byte_byte
 rw [app_ok (by simpa using hl), bd_mk]; rfl
end Go.Wk.Lf
end
section
namespace Go.Wk.Lf
open Go.V Go.Sort Go.Proofs
def partB (p : Part) : Bool := (((nameB p.path && decide (0 ≤ p.size)) && decide (p.size ≤ 200)) && decide (p.ids.length ≤ 25)) && (decide (p.ids.length = 0) == decide (p.size = 0))
theorem part_eq (p : Part) : manifest_part p = some (partB p) := by
 unfold manifest_part partB
 rw [name_eq, bd_mk]
 have h1 : decide ((p.ids.length : Int) ≤ 25) = decide (p.ids.length ≤ 25) := by rw [decide_eq_decide]; omega
 have h2 : decide ((p.ids.length : Int) = 0) = decide (p.ids.length = 0) := by rw [decide_eq_decide]; omega
 rw [h1, h2]
theorem adj_pairwise {α : Type} (R : α → α → Prop) (ht : ∀ {a b c}, R a b → R b c → R a c) (l : List α) : l.Pairwise R ↔ ∀ i (h : i < l.length), 0 < i → R (l[i - 1]'(by omega)) l[i] := by
 constructor
 ·intro h i hi h0
  exact List.pairwise_iff_getElem.1 h (i - 1) i (by omega) hi (by omega)
 ·intro h
  rw [List.pairwise_iff_getElem]
  intro i j hi hj hij
  induction j with
  | zero => omega
  | succ j ih =>
   have h1 := h (j + 1) hj (by omega)
   rcases (by omega : i = j ∨ i < j) with rfl | h2
   ·exact h1
   ·exact ht (ih (by omega) h2) h1
def risesP (l : List Part) : Prop := l.Pairwise fun a b => sLt a.path b.path = true
instance (l : List Part) : Decidable (risesP l) := by unfold risesP; infer_instance
def manB (m : Manifest) : Prop := nameB m.name = true ∧ m.parts.length ≤ 6 ∧ (m.parts.all partB) = true ∧ risesP m.parts
instance (m : Manifest) : Decidable (manB m) := by unfold manB; infer_instance
theorem adj_iff (l : List Part) (q : Part → Bool) : (∀ i, i < l.length → (q (l.getD i default) && (!decide (0 < i) || sLt (l.getD (i - 1) default).path (l.getD i default).path)) = true) ↔ (l.all q = true ∧ risesP l) := by
 constructor
 ·intro h
  refine ⟨?_, (adj_pairwise (fun a b : Part => sLt a.path b.path = true) (fun h1 h2 => sLt_trans h1 h2) l).2 fun i hi h0 => ?_⟩
  ·rw [List.all_eq_true]
   intro x hx
   obtain ⟨j, hj, rfl⟩ := List.getElem_of_mem hx
   have h1 := h j hj
   simp only [List.getD_eq_getElem?_getD, List.getElem?_eq_getElem hj, Option.getD_some, Bool.and_eq_true] at h1
   exact h1.1
  ·have h1 := h i hi
   have hi' : i - 1 < l.length := by omega
   simp only [List.getD_eq_getElem?_getD, List.getElem?_eq_getElem hi, List.getElem?_eq_getElem hi', Option.getD_some, Bool.and_eq_true, h0, decide_true, Bool.not_true, Bool.false_or] at h1
   exact h1.2
 ·rintro ⟨h1, h2⟩ i hi
  rw [List.all_eq_true] at h1
  have h3 := h1 _ (List.getElem_mem hi)
  simp only [List.getD_eq_getElem?_getD, List.getElem?_eq_getElem hi, Option.getD_some, h3, Bool.true_and]
  by_cases h0 : 0 < i
  ·have hi' : i - 1 < l.length := by omega
   simp only [List.getElem?_eq_getElem hi', Option.getD_some, h0, decide_true, Bool.not_true, Bool.false_or]
   exact (adj_pairwise (fun a b : Part => sLt a.path b.path = true) (fun h1 h2 => sLt_trans h1 h2) l).1 h2 i hi h0
  ·simp [h0]
theorem test_eq (l : List Part) (i : Nat) (hi : i < l.length) (hl : l.length < 1000000000) (N : Bool) {β : Type} (K : Part → Option β) :
  (bd (only ((!(!N)) && decide (0 < (i : Int))) (ix l (wr ((i : Int) - 1))) (Part.mk [] 0 [])) K) = if N = true ∧ 0 < i then K (l.getD (i - 1) default) else K (Part.mk [] 0 []) := by
 cases N with
 | false => rw [only_f (by simp), bd_mk]; simp
 | true =>
  by_cases h0 : 0 < i
  ·have hi' : i - 1 < l.length := by omega
   rw [only_t (by simp; omega), wr_pred h0 (by omega), ix_lt hi', bd_mk, if_pos ⟨rfl, h0⟩]
   simp [List.getD_eq_getElem?_getD, List.getElem?_eq_getElem hi']
  ·rw [only_f (by simp; omega), bd_mk, if_neg (by omega)]
theorem mcheck_eq (m : Manifest) : manifest_Check m = some (if manB m then 0 else 1) := by
 unfold manifest_Check
 rw [name_eq, bd_mk]
 by_cases h0 : nameB m.name = true ∧ m.parts.length ≤ 6
 ·obtain ⟨hn, h6⟩ := h0
  rw [if_neg (by simp only [hn]; simp; omega)]
  rw [loop_all (x0 := (0 : Int)) (fun i => (i : Int)) m.parts.length (fun i => partB (m.parts.getD i default) && (!decide (0 < i) || sLt (m.parts.getD (i - 1) default).path (m.parts.getD i default).path)) (some 0) (some 1) rfl (by omega) ?_ ?_]
  ·have hiff := adj_iff m.parts partB
   by_cases h : m.parts.all partB = true ∧ risesP m.parts
   ·rw [if_pos (hiff.2 h), if_pos (show manB m from ⟨hn, h6, h.1, h.2⟩)]
   ·rw [if_neg fun h2 => h (hiff.1 h2), if_neg fun h2 : manB m => h ⟨h2.2.2.1, h2.2.2.2⟩]
  ·intro rec i hi
   simp only [manifest_Check.l2]
   rw [if_t (lt_t hi), ix_lt hi, bd_mk, part_eq, bd_mk, test_eq m.parts i hi (by omega)]
   simp only [List.getD_eq_getElem?_getD, List.getElem?_eq_getElem hi, Option.getD_some]
   cases hN : partB m.parts[i] with
   | false => simp
   | true =>
    by_cases h0 : 0 < i
    ·have hi' : i - 1 < m.parts.length := by omega
     have h0' : (0 : Int) < (i : Int) := by omega
     simp only [h0, h0', and_self, if_true, List.getElem?_eq_getElem hi', Option.getD_some, decide_true, Bool.not_true, Bool.false_or, Bool.true_and, wr_succ (show i < 4611686018427387904 by omega)]
     have hg := gtr_eq m.parts[i].path m.parts[i - 1].path
     cases hc : (sLt m.parts[i].path m.parts[i - 1].path || m.parts[i].path == m.parts[i - 1].path) with
     | true => rw [hc] at hg; rw [← hg]; rfl
     | false => rw [hc] at hg; rw [← hg]; rfl
    ·have h0' : ¬ (0 : Int) < (i : Int) := by omega
     simp [h0, h0', wr_succ (show i < 4611686018427387904 by omega)]
  ·intro rec
   simp only [manifest_Check.l2, manifest_Check.k1]
   rw [if_f (lt_f (Nat.lt_irrefl _))]
 ·rw [if_pos (by
   simp only [Bool.or_eq_true, decide_eq_true_eq, Bool.not_eq_true']
   cases hn : nameB m.name with
   | false => exact .inl rfl
   | true =>
    rcases Nat.lt_or_ge 6 m.parts.length with h6 | h6
    ·right; omega
    ·exact absurd ⟨hn, h6⟩ h0), if_neg fun h : manB m => h0 ⟨h.1, h.2.1⟩]
def be2 (n : Int) : List UInt8 := [toB8 (n / 256), toB8 n]
def partBytes (p : Part) : List UInt8 := ([toB8 (p.path.length : Int)] ++ p.path ++ be2 p.size ++ [toB8 (p.ids.length : Int)]) ++ p.ids.flatten
def manBytes (m : Manifest) : List UInt8 := ([toB8 (m.name.length : Int)] ++ m.name ++ [toB8 (m.parts.length : Int)]) ++ m.parts.flatMap partBytes
def okId (m : Manifest) : Prop := ∀ p ∈ m.parts, ∀ x ∈ p.ids, x.length = 32
theorem nameB_len {s : List UInt8} (h : nameB s = true) : 1 ≤ s.length ∧ s.length ≤ 20 := by
 simp only [nameB, Bool.and_eq_true, decide_eq_true_eq] at h; exact h.1
theorem partB_num {p : Part} (h : partB p = true) : nameB p.path = true ∧ 0 ≤ p.size ∧ p.size ≤ 200 ∧ p.ids.length ≤ 25 ∧ (p.ids.length = 0 ↔ p.size = 0) := by
 simp only [partB, Bool.and_eq_true, decide_eq_true_eq] at h
 obtain ⟨⟨⟨⟨h1, h2⟩, h3⟩, h4⟩, h5⟩ := h
 refine ⟨h1, h2, h3, h4, ?_⟩
 rw [beq_iff_eq, decide_eq_decide] at h5; exact h5
theorem manB_parts {m : Manifest} (h : manB m) : ∀ p ∈ m.parts, partB p = true := by
 have := h.2.2.1; rwa [List.all_eq_true] at this
end Go.Wk.Lf
end
section
namespace Go.Wk
section
variable {α : Type} [DecidableEq α]
theorem snoc_ind {β : Type} {p : List β → Prop} (h0 : p []) (h1 : ∀ l y, p l → p (l ++ [y])) : ∀ l, p l := by
 intro l
 have : ∀ r : List β, p r.reverse := by
  intro r
  induction r with
  | nil => exact h0
  | cons x r ih => rw [List.reverse_cons]; exact h1 _ _ ih
 have := this l.reverse
 rwa [List.reverse_reverse] at this
end
end Go.Wk
end
section
namespace Go.Wk.Lf
open Go.V Go.Sort Go.Proofs
theorem cloneI_eq (l : List (List UInt8)) (hl : l.length ≤ 1073741824) : slices_Clone_32_byte_32_byte l = some l := by
 unfold slices_Clone_32_byte_32_byte
 rw [app_ok (by simpa using hl), bd_mk, List.nil_append]
end Go.Wk.Lf
end
section
namespace Go.Wk.Lf
open Go.V Go.Sort Go.Proofs
def beN (l : List UInt8) : Nat := l.foldl (fun n c => n * 256 + c.toNat) 0
theorem or_i64_nat (a b : Nat) (ha : a < 4611686018427387904) (hb : b < 4611686018427387904) : bits .or .i64 (a : Int) (b : Int) = ((a ||| b : Nat) : Int) := by
 have hx : a ||| b < 2 ^ 62 := Nat.or_lt_two_pow (by omega) (by omega)
 have h1 : (BitVec.ofInt 64 (a : Int)).toNat = a := by
  rw [BitVec.ofInt_natCast, BitVec.toNat_ofNat]; exact Nat.mod_eq_of_lt (by omega)
 have h2 : (BitVec.ofInt 64 (b : Int)).toNat = b := by
  rw [BitVec.ofInt_natCast, BitVec.toNat_ofNat]; exact Nat.mod_eq_of_lt (by omega)
 show IntKind.i64.wrap ((BitVec.ofInt 64 (a : Int) ||| BitVec.ofInt 64 (b : Int)).toNat : Int) = _
 rw [BitVec.toNat_or, h1, h2]
 exact wr_id (by omega) (by omega)
theorem or_step (n : Nat) (c : UInt8) (hn : n < 18014398509481984) : bits .or .i64 (wr ((n : Int) * 2 ^ (8 : Int).toNat)) (c.toNat : Int) = ((n * 256 + c.toNat : Nat) : Int) := by
 have hc := c.toNat_lt
 have e : wr ((n : Int) * 2 ^ (8 : Int).toNat) = ((n * 256 : Nat) : Int) := by
  rw [show (8 : Int).toNat = 8 from rfl]
  rw [wr_id (by omega) (by omega)]; omega
 rw [e, or_i64_nat _ _ (by omega) (by omega)]
 have := Nat.shiftLeft_add_eq_or_of_lt (i := 8) (b := c.toNat) (by omega) n
 rw [Nat.shiftLeft_eq] at this
 rw [show n * 256 = n * 2 ^ 8 from rfl, this]
theorem beN_lt : ∀ (l : List UInt8), beN l < 256 ^ l.length := by
 intro l
 refine snoc_ind (p := fun l => beN l < 256 ^ l.length) (by simp [beN]) (fun l c ih => ?_) l
 have hc := c.toNat_lt
 simp only [beN, List.foldl_append, List.foldl_cons, List.foldl_nil, List.length_append, List.length_cons, List.length_nil, Nat.pow_succ] at ih ⊢
 omega
theorem beN_snoc (l : List UInt8) (c : UInt8) : beN (l ++ [c]) = beN l * 256 + c.toNat := by simp [beN]
theorem num_loop {A : Type} {F : (Int × Int → Option A) → Int × Int → Option A} {l : List UInt8} {K : Int → Option A} (mk : Int → Int → Int × Int) (hl : l.length ≤ 7)
  (hs : ∀ rec i (h : i < l.length) (n : Int), F rec (mk n i) = rec (mk (bits .or .i64 (wr (n * 2 ^ (8 : Int).toNat)) (l[i].toNat : Int)) (wr ((i : Int) + 1)))) (he : ∀ rec n, F rec (mk n l.length) = K n) : loop F (mk 0 0) = K (beN l : Int) := by
 refine loop_eq (S := Int × Int) (σ := Unit) (fun i _ => mk ((beN (l.take i) : Nat) : Int) (i : Int)) l.length (fun _ _ => True) _ (i0 := 0) (s0 := ()) (by simp [beN]) (Nat.zero_le _) trivial (by omega) ?_ ?_
 ·intro rec i _ hi _ hrec
  have hlt : beN (l.take i) < 256 ^ 6 := Nat.lt_of_lt_of_le (beN_lt _) (Nat.pow_le_pow_right (by decide) (by simp; omega))
  rw [hs rec i hi, or_step _ _ (by omega), wr_succ (by omega)]
  have := hrec () trivial
  rw [take_snoc' hi, beN_snoc] at this
  exact this
 ·intro rec _ _
  rw [he, List.take_length]
theorem get_eq (b : List UInt8) (at_ k : Nat) (h1 : 1 ≤ k) (h7 : k ≤ 7) (hb : b.length ≤ 1073741824) (hk : at_ + k ≤ b.length) : bin_Get b (at_ : Int) (k : Int) = some ((beN ((b.take (at_ + k)).drop at_) : Int), ((at_ + k : Nat) : Int), 0) := by
 unfold bin_Get
 rw [if_neg (by simp only [Bool.or_eq_true, decide_eq_true_eq]; omega), wr_id (x := (b.length : Int) - at_) (by omega) (by omega), if_neg (by simp only [decide_eq_true_eq]; omega), wr_id (x := (at_ : Int) + k) (by omega) (by omega), cut_ok (by omega) (by omega) (by omega), bd_mk]
 rw [show ((at_ : Int) + (k : Int)).toNat = at_ + k by omega, Int.toNat_natCast]
 have hlen : ((b.take (at_ + k)).drop at_).length = k := by simp; omega
 generalize (b.take (at_ + k)).drop at_ = l at hlen ⊢
 refine num_loop (l := l) (K := fun n => some (n, ((at_ + k : Nat) : Int), 0)) (fun n i => (n, i)) (by omega) (fun rec i hi n => ?_) (fun rec n => ?_)
 ·simp only [bin_Get.l2]
  rw [if_t (lt_t hi), ix_lt hi, bd_mk]
 ·simp only [bin_Get.l2, bin_Get.k1]
  rw [if_f (lt_f (Nat.lt_irrefl _)), wr_id (by omega) (by omega)]
  rfl
theorem toB8_toNat {n : Nat} (h : n < 256) : (toB8 (n : Int)).toNat = n := by
 unfold toB8; simp; omega
theorem toB8_byte (c : UInt8) : toB8 (c.toNat : Int) = c := by
 have := c.toNat_lt
 apply UInt8.toNat.inj
 rw [toB8_toNat (by omega)]
theorem beN_one (c : UInt8) : beN [c] = c.toNat := by simp [beN]
theorem beN_two (a b : UInt8) : beN [a, b] = a.toNat * 256 + b.toNat := by simp [beN]
theorem be2_beN (a b : UInt8) : be2 ((beN [a, b] : Nat) : Int) = [a, b] := by
 have ha := a.toNat_lt
 have hb := b.toNat_lt
 rw [beN_two]
 unfold be2
 have e1 : ((a.toNat * 256 + b.toNat : Nat) : Int) / 256 = ((a.toNat : Nat) : Int) := by omega
 rw [e1, toB8_byte]
 congr 2
 apply UInt8.toNat.inj
 unfold toB8
 simp
 omega
theorem beN_be2 {n : Nat} (h : n < 65536) : beN (be2 (n : Int)) = n := by
 unfold be2
 rw [beN_two]
 have e1 : (n : Int) / 256 = ((n / 256 : Nat) : Int) := by omega
 rw [e1, toB8_toNat (by omega)]
 unfold toB8
 simp
 omega
structure Tk (σ : Type) where
 rest : σ → List UInt8
 bad : σ → Bool
 take : σ → Nat → List UInt8 × σ
 len : ∀ s n, (take s n).1.length = n
 sound : ∀ s n, bad (take s n).2 = false → bad s = false ∧ rest s = (take s n).1 ++ rest (take s n).2
 full : ∀ s x t, bad s = false → rest s = x ++ t → (take s x.length).1 = x ∧ rest (take s x.length).2 = t ∧ bad (take s x.length).2 = false
section
variable {σ : Type} (T : Tk σ)
def Tk.num (s : σ) (n : Nat) : Nat × σ := (beN (T.take s n).1, (T.take s n).2)
def Tk.text (s : σ) : List UInt8 × σ := T.take (T.num s 1).2 (T.num s 1).1
theorem Tk.num1 (s : σ) : ∃ c, (T.take s 1).1 = [c] ∧ (T.num s 1).1 = c.toNat := by
 have h := T.len s 1
 match hq : (T.take s 1).1, h with
 | [c], _ => exact ⟨c, rfl, by simp [Tk.num, hq, beN]⟩
theorem Tk.num1_sound (s : σ) (h : T.bad (T.num s 1).2 = false) : T.bad s = false ∧ (T.num s 1).1 < 256 ∧ T.rest s = toB8 ((T.num s 1).1 : Int) :: T.rest (T.num s 1).2 := by
 obtain ⟨c, h1, h2⟩ := T.num1 s
 obtain ⟨h3, h4⟩ := T.sound s 1 h
 have := c.toNat_lt
 refine ⟨h3, by omega, ?_⟩
 rw [h4, h1, h2, toB8_byte]; rfl
theorem Tk.num1_full (s : σ) (n : Nat) (t : List UInt8) (hn : n < 256) (hb : T.bad s = false) (hr : T.rest s = toB8 (n : Int) :: t) : (T.num s 1).1 = n ∧ T.rest (T.num s 1).2 = t ∧ T.bad (T.num s 1).2 = false := by
 obtain ⟨h1, h2, h3⟩ := T.full s [toB8 (n : Int)] t hb hr
 refine ⟨?_, h2, h3⟩
 show beN (T.take s 1).1 = n
 rw [show (1 : Nat) = [toB8 (n : Int)].length from rfl, h1, beN_one, toB8_toNat hn]
theorem Tk.num2_sound (s : σ) (h : T.bad (T.num s 2).2 = false) : T.bad s = false ∧ (T.num s 2).1 < 65536 ∧ T.rest s = be2 ((T.num s 2).1 : Int) ++ T.rest (T.num s 2).2 := by
 have hl := T.len s 2
 obtain ⟨h3, h4⟩ := T.sound s 2 h
 refine ⟨h3, ?_, ?_⟩
 ·have := beN_lt (T.take s 2).1
  rw [hl] at this
  exact this
 ·rw [h4]
  match hq : (T.take s 2).1, hl with
  | [a, b], _ =>
   show _ = be2 ((beN (T.take s 2).1 : Nat) : Int) ++ _
   rw [hq, be2_beN]; rfl
theorem Tk.num2_full (s : σ) (n : Nat) (t : List UInt8) (hn : n < 65536) (hb : T.bad s = false) (hr : T.rest s = be2 (n : Int) ++ t) : (T.num s 2).1 = n ∧ T.rest (T.num s 2).2 = t ∧ T.bad (T.num s 2).2 = false := by
 obtain ⟨h1, h2, h3⟩ := T.full s (be2 (n : Int)) t hb hr
 refine ⟨?_, h2, h3⟩
 show beN (T.take s 2).1 = n
 rw [show (2 : Nat) = (be2 (n : Int)).length from rfl, h1, beN_be2 hn]
theorem Tk.text_sound (s : σ) (h : T.bad (T.text s).2 = false) : T.bad s = false ∧ (T.text s).1.length < 256 ∧ T.rest s = toB8 ((T.text s).1.length : Int) :: ((T.text s).1 ++ T.rest (T.text s).2) := by
 obtain ⟨h1, h2⟩ := T.sound _ _ h
 obtain ⟨h3, h4, h5⟩ := T.num1_sound s h1
 have hl : (T.text s).1.length = (T.num s 1).1 := T.len _ _
 refine ⟨h3, by omega, ?_⟩
 rw [h5, hl, h2]; rfl
theorem Tk.text_full (s : σ) (x t : List UInt8) (hn : x.length < 256) (hb : T.bad s = false) (hr : T.rest s = toB8 (x.length : Int) :: (x ++ t)) : (T.text s).1 = x ∧ T.rest (T.text s).2 = t ∧ T.bad (T.text s).2 = false := by
 obtain ⟨h1, h2, h3⟩ := T.num1_full s x.length (x ++ t) hn hb hr
 obtain ⟨h4, h5, h6⟩ := T.full (T.num s 1).2 x t h3 h2
 unfold Tk.text
 rw [h1]; exact ⟨h4, h5, h6⟩
def Tk.head (s : σ) : List UInt8 × Nat × Nat × σ :=
 let a := T.text s
 let b := T.num a.2 2
 let c := T.num b.2 1
 (a.1, b.1, c.1, c.2)
def headBytes (p : List UInt8) (n k : Nat) : List UInt8 := [toB8 (p.length : Int)] ++ p ++ be2 (n : Int) ++ [toB8 (k : Int)]
theorem Tk.head_sound (s : σ) (h : T.bad (T.head s).2.2.2 = false) : T.bad s = false ∧ (T.head s).1.length < 256 ∧ (T.head s).2.1 < 65536 ∧ (T.head s).2.2.1 < 256 ∧ T.rest s = headBytes (T.head s).1 (T.head s).2.1 (T.head s).2.2.1 ++ T.rest (T.head s).2.2.2 := by
 obtain ⟨h1, h2, h3⟩ := T.num1_sound _ h
 obtain ⟨h4, h5, h6⟩ := T.num2_sound _ h1
 obtain ⟨h7, h8, h9⟩ := T.text_sound _ h4
 refine ⟨h7, h8, h5, h2, ?_⟩
 rw [h9, h6, h3]
 simp [headBytes, Tk.head]
theorem Tk.head_full (s : σ) (p t : List UInt8) (n k : Nat) (hp : p.length < 256) (hn : n < 65536) (hk : k < 256) (hb : T.bad s = false) (hr : T.rest s = headBytes p n k ++ t) : (T.head s).1 = p ∧ (T.head s).2.1 = n ∧ (T.head s).2.2.1 = k ∧ T.rest (T.head s).2.2.2 = t ∧ T.bad (T.head s).2.2.2 = false := by
 obtain ⟨h1, h2, h3⟩ := T.text_full s p (be2 (n : Int) ++ toB8 (k : Int) :: t) hp hb (by rw [hr]; simp [headBytes])
 obtain ⟨h4, h5, h6⟩ := T.num2_full _ n (toB8 (k : Int) :: t) hn h3 h2
 obtain ⟨h7, h8, h9⟩ := T.num1_full _ k t hk h6 h5
 exact ⟨h1, h4, h7, h8, h9⟩
end
def wfP (p : Part) : Prop := p.path.length < 256 ∧ 0 ≤ p.size ∧ p.size < 65536 ∧ p.ids.length < 256 ∧ ∀ x ∈ p.ids, x.length = 32
theorem partBytes_head (p : Part) (n : Nat) (h : p.size = (n : Int)) : partBytes p = headBytes p.path n p.ids.length ++ p.ids.flatten := by simp [partBytes, headBytes, h]
theorem wf_of {p : Part} (h : partB p = true) (hk : ∀ x ∈ p.ids, x.length = 32) : wfP p := by
 have h2 := partB_num h
 have h3 := nameB_len h2.1
 exact ⟨by omega, h2.2.1, by omega, by omega, hk⟩
end Go.Wk.Lf
end
section
namespace Go.Wk.Lf
open Go.V Go.Sort Go.Proofs
def takeM (s : ManifestReader) (n : Nat) : List UInt8 × ManifestReader := if (s.bad || decide (s.b.length < n)) = true then (List.replicate n 0, ⟨s.b, true⟩) else (s.b.take n, ⟨s.b.drop n, s.bad⟩)
def tkM : Tk ManifestReader where
 rest s := s.b
 bad s := s.bad
 take := takeM
 len s n := by
  unfold takeM; split
  ·simp
  ·rename_i h; simp only [Bool.or_eq_true, decide_eq_true_eq, not_or] at h; simp; omega
 sound s n h := by
  unfold takeM at h ⊢; split at h
  ·cases h
  ·rename_i hc; rw [if_neg hc]; exact ⟨h, (List.take_append_drop n s.b).symm⟩
 full s x t hb hr := by
  have hr' : s.b = x ++ t := hr
  have hb' : s.bad = false := hb
  unfold takeM
  rw [if_neg (by rw [hb', hr']; simp)]
  exact ⟨by rw [hr']; simp, by show s.b.drop x.length = t; rw [hr']; simp, hb'⟩
theorem takeM_eq (s : ManifestReader) (n : Nat) (hn : n ≤ 65536) (hb : s.b.length ≤ 1073741824) : manifest_reader_take_fz s (n : Int) = some (takeM s n) := by
 unfold manifest_reader_take_fz takeM
 have e : decide ((s.b.length : Int) < (n : Int)) = decide (s.b.length < n) := by rw [decide_eq_decide]; omega
 rw [e]
 split
 ·rw [rep_ok (by omega) (by omega), bd_mk, Int.toNat_natCast]
 ·rename_i h
  simp only [Bool.or_eq_true, decide_eq_true_eq, not_or] at h
  rw [cut_ok (by omega) (by omega) (by omega), bd_mk, cut_ok (by omega) (by omega) (by omega), bd_mk]
  simp
theorem takeM_len (s : ManifestReader) (n : Nat) : (takeM s n).2.b.length ≤ s.b.length := by
 unfold takeM; split
 ·exact Nat.le_refl _
 ·simp
theorem numM_eq (s : ManifestReader) (n : Nat) (h1 : 1 ≤ n) (h7 : n ≤ 7) (hb : s.b.length ≤ 1073741824) : manifest_reader_num_fz s (n : Int) = some (((tkM.num s n).1 : Int), (tkM.num s n).2) := by
 unfold manifest_reader_num_fz
 have hl := tkM.len s n
 rw [takeM_eq s n (by omega) hb, bd_mk]
 have hg := get_eq (takeM s n).1 0 n h1 h7 (by have : (takeM s n).1.length = n := hl; omega) (by have : (takeM s n).1.length = n := hl; omega)
 rw [show ((0 : Nat) : Int) = 0 from rfl] at hg
 rw [hg, bd_mk]
 have : ((takeM s n).1.take (0 + n)).drop 0 = (takeM s n).1 := by
  rw [Nat.zero_add, List.drop_zero, List.take_of_length_le]
  have : (takeM s n).1.length = n := hl
  omega
 rw [this]; rfl
theorem len_num (s : ManifestReader) (n : Nat) : (tkM.num s n).2.b.length ≤ s.b.length := takeM_len s n
theorem len_text (s : ManifestReader) : (tkM.text s).2.b.length ≤ s.b.length := Nat.le_trans (takeM_len _ _) (len_num s 1)
theorem num1_le (s : ManifestReader) : (tkM.num s 1).1 < 256 := by
 obtain ⟨c, _, h⟩ := tkM.num1 s
 have := c.toNat_lt
 omega
theorem headM_eq (s : ManifestReader) (hb : s.b.length ≤ 1073741824) {A : Type} (K : List UInt8 × ManifestReader → Int × ManifestReader → Int × ManifestReader → Option A) :
  (bd (manifest_reader_num_fz s 1) fun a => bd (manifest_reader_take_fz a.2 a.1) fun b => bd (manifest_reader_num_fz b.2 2) fun c => bd (manifest_reader_num_fz c.2 1) fun d => K b c d) = K (tkM.text s) (((tkM.num (tkM.text s).2 2).1 : Int), (tkM.num (tkM.text s).2 2).2) (((tkM.num (tkM.num (tkM.text s).2 2).2 1).1 : Int), (tkM.num (tkM.num (tkM.text s).2 2).2 1).2) := by
 have h0 := num1_le s
 have h1 := len_num s 1
 have h2 := len_text s
 have h3 := len_num (tkM.text s).2 2
 rw [show (1 : Int) = ((1 : Nat) : Int) from rfl, show (2 : Int) = ((2 : Nat) : Int) from rfl, numM_eq s 1 (by omega) (by omega) hb, bd_mk]
 simp only
 rw [takeM_eq _ _ (by omega) (by omega), bd_mk]
 show (bd (manifest_reader_num_fz (tkM.text s).2 _) _) = _
 rw [numM_eq _ 2 (by omega) (by omega) (by omega), bd_mk]
 simp only
 rw [numM_eq _ 1 (by omega) (by omega) (by omega), bd_mk]
 rfl
def isMan (b : List UInt8) (m : Manifest) : Prop := manB m ∧ okId m ∧ b = manBytes m
open Classical in
noncomputable def readL (b : List UInt8) : Manifest × Int := if h : ∃ m, isMan b m then (h.choose, 0) else (⟨[], []⟩, 3)
structure RInv (b : List UInt8) (nm : List UInt8) (cnt : Nat) (i : Nat) (q : List UInt8) (bad : Bool) (ps : List Part) : Prop where
 len : q.length ≤ b.length
 snd : bad = false → b = [toB8 (nm.length : Int)] ++ nm ++ [toB8 (cnt : Int)] ++ ps.flatMap partBytes ++ q ∧ ps.length = i ∧ ∀ p ∈ ps, wfP p
 cpl : ∀ m, isMan b m → bad = false ∧ nm = m.name ∧ cnt = m.parts.length ∧ ps = m.parts.take i ∧ q = (m.parts.drop i).flatMap partBytes
theorem man_head {m : Manifest} (h : manB m) : m.name.length < 256 ∧ m.parts.length < 256 := by
 have h1 := nameB_len h.1
 have h2 := h.2.1
 exact ⟨by omega, by omega⟩
theorem read_end {b nm : List UInt8} {cnt : Nat} {q : List UInt8} {bad : Bool} {ps : List Part} {i : Nat} (hcn : cnt < 256) (hI : RInv b nm cnt i q bad ps) (hi : bad = false → i = cnt) :
  (if ((bad || decide (0 < q.length)) || !decide (manB ⟨nm, ps⟩)) = true then ((⟨[], []⟩ : Manifest), (3 : Int)) else (⟨nm, ps⟩, 0)) = readL b := by
 by_cases hex : ∃ m, isMan b m
 ·have hr : readL b = (hex.choose, 0) := by unfold readL; rw [dif_pos hex]
  obtain ⟨h1, h2, h3, h4, h5⟩ := hI.cpl _ hex.choose_spec
  have hic := hi h1
  rw [hic, h3, List.take_length] at h4
  rw [hic, h3, List.drop_length] at h5
  have hm : (⟨nm, ps⟩ : Manifest) = hex.choose := by rw [h2, h4]
  rw [hr, hm]
  rw [if_neg]
  rw [h1, h5]
  have := hex.choose_spec.1
  simp [this]
 ·have hr : readL b = (⟨[], []⟩, 3) := by unfold readL; rw [dif_neg hex]
  rw [hr]
  split
  ·rfl
  ·rename_i hc
   simp only [Bool.or_eq_true, decide_eq_true_eq, not_or, Bool.not_eq_true', decide_eq_false_iff_not, Bool.not_eq_true, Classical.not_not] at hc
   obtain ⟨⟨hb, hq⟩, hm⟩ := hc
   exfalso
   obtain ⟨h1, h2, h3⟩ := hI.snd hb
   refine hex ⟨⟨nm, ps⟩, hm, fun p hp => (h3 p hp).2.2.2.2, ?_⟩
   have hq0 : q = [] := List.eq_nil_of_length_eq_zero (by omega)
   rw [h1, hq0, List.append_nil, ← hi hb, ← h2]; rfl
theorem RInv.step {b nm : List UInt8} {cnt i : Nat} {q : List UInt8} {bad : Bool} {ps : List Part} (hI : RInv b nm cnt i q bad ps) {p : Part} {q' : List UInt8} {bad' : Bool} (hl : q'.length ≤ q.length)
  (hs : bad' = false → bad = false ∧ q = partBytes p ++ q' ∧ wfP p) (hc : ∀ p0 t, bad = false → wfP p0 → q = partBytes p0 ++ t → p = p0 ∧ q' = t ∧ bad' = false) (hi : i < cnt) : RInv b nm cnt (i + 1) q' bad' (ps ++ [p]) := by
 refine ⟨Nat.le_trans hl hI.len, fun hb => ?_, fun m hm => ?_⟩
 ·obtain ⟨h1, h2, h3⟩ := hs hb
  obtain ⟨h4, h5, h6⟩ := hI.snd h1
  refine ⟨?_, by simp [h5], fun p' hp' => ?_⟩
  ·rw [h4, h2]; simp
  ·rcases List.mem_append.1 hp' with h | h
   ·exact h6 p' h
   ·simp at h; subst h; exact h3
 ·obtain ⟨h1, h2, h3, h4, h5⟩ := hI.cpl m hm
  have hil : i < m.parts.length := by omega
  rw [List.drop_eq_getElem_cons hil, List.flatMap_cons] at h5
  have hmem := List.getElem_mem hil
  obtain ⟨h6, h7, h8⟩ := hc _ _ h1 (wf_of (manB_parts hm.1 _ hmem) (hm.2.1 _ hmem)) h5
  refine ⟨h8, h2, h3, ?_, h7⟩
  rw [h4, h6, take_snoc' hil]
theorem read_eq (b : List UInt8) (hb : b.length ≤ 1000000000) : manifest_Read b = some (readL b) := by
 unfold manifest_Read
 let s0 : ManifestReader := ⟨b, false⟩
 have h0 := num1_le s0
 have h1 := len_num s0 1
 have h2 := len_text s0
 have h3 := len_num (tkM.text s0).2 1
 have h4 := num1_le (tkM.text s0).2
 rw [show (1 : Int) = ((1 : Nat) : Int) from rfl, numM_eq s0 1 (by omega) (by omega) (by show b.length ≤ _; omega), bd_mk]
 simp only
 rw [takeM_eq _ _ (by omega) (by have : (tkM.num s0 1).2.b.length ≤ b.length := h1; omega), bd_mk]
 show (bd (manifest_reader_num_fz (tkM.text s0).2 _) _) = _
 have hlt : (tkM.text s0).2.b.length ≤ b.length := h2
 rw [numM_eq _ 1 (by omega) (by omega) (by omega), bd_mk]
 simp only
 show loop (manifest_Read.l2 (tkM.text s0) (((tkM.num (tkM.text s0).2 1).1 : Int), (tkM.num (tkM.text s0).2 1).2)) _ = _
 generalize hR : tkM.num (tkM.text s0).2 1 = R at h3 h4 ⊢
 generalize hT : tkM.text s0 = Tx at h3 hlt hR ⊢
 have hinit : RInv b Tx.1 R.1 0 R.2.b R.2.bad [] := by
  refine ⟨by omega, fun hbad => ?_, fun m hm => ?_⟩
  ·have hbad' : tkM.bad (tkM.num Tx.2 1).2 = false := by rw [hR]; exact hbad
   obtain ⟨a1, a2, a3⟩ := tkM.num1_sound _ hbad'
   rw [← hT] at a1 a3
   obtain ⟨a4, a5, a6⟩ := tkM.text_sound s0 a1
   rw [hT, hR] at a3
   rw [hT] at a6
   have e1 : tkM.rest s0 = b := rfl
   have e2 : tkM.rest R.2 = R.2.b := rfl
   rw [e1, a3, e2] at a6
   exact ⟨by rw [a6]; simp, rfl, fun p hp => by simp at hp⟩
  ·obtain ⟨m1, m2⟩ := man_head hm.1
   obtain ⟨a1, a2, a3⟩ := tkM.text_full s0 m.name (toB8 (m.parts.length : Int) :: m.parts.flatMap partBytes) m1 rfl (by show b = _; rw [hm.2.2]; simp [manBytes])
   rw [hT] at a1 a2 a3
   obtain ⟨a4, a5, a6⟩ := tkM.num1_full Tx.2 m.parts.length (m.parts.flatMap partBytes) m2 a3 a2
   rw [hR] at a4 a5 a6
   exact ⟨a6, a1, a4, rfl, a5⟩
 have hfin : ∀ (i : Nat) (q : List UInt8) (bad : Bool) (ps : List Part), RInv b Tx.1 R.1 i q bad ps → (bad = false → i = R.1) → manifest_Read.k1 Tx ps q bad = some (readL b) := by
  intro i q bad ps hI hi
  rw [← read_end h4 hI hi]
  simp only [manifest_Read.k1]
  have e : decide (0 < (q.length : Int)) = decide (0 < q.length) := by rw [decide_eq_decide]; omega
  rw [e]
  cases hc : (bad || decide (0 < q.length)) with
  | true => rw [only_f (by simp), bd_mk]; rfl
  | false =>
   rw [only_t (by simp), mcheck_eq, bd_mk]
   by_cases hm : manB ⟨Tx.1, ps⟩
   ·rw [if_pos hm]; simp [hm]
   ·rw [if_neg hm]; simp [hm]
 refine loop_eq (S := Int × List UInt8 × Bool × List Part) (σ := List UInt8 × Bool × List Part) (fun i s => ((i : Int), s.1, s.2.1, s.2.2)) R.1 (fun i s => RInv b Tx.1 R.1 i s.1 s.2.1 s.2.2 ∧ s.2.2.length = i) _ (i0 := 0) (s0 := (R.2.b, R.2.bad, [])) rfl (Nat.zero_le _) ⟨hinit, rfl⟩ (by omega) ?_ ?_
 ·rintro rec i ⟨q, bad, ps⟩ hi ⟨hI, hpl⟩ hrec
  simp only at hI hpl hrec
  simp only [manifest_Read.l2]
  rw [if_t (lt_t hi)]
  have hql := hI.len
  rw [headM_eq ⟨q, bad⟩ (by show q.length ≤ _; omega)]
  let s : ManifestReader := ⟨q, bad⟩
  have g2 := len_text s
  have g3 := len_num (tkM.text s).2 2
  have g4 := len_num (tkM.num (tkM.text s).2 2).2 1
  have g5 := num1_le (tkM.num (tkM.text s).2 2).2
  have hsd := tkM.head_sound s
  have hfl := tkM.head_full s
  have eh : tkM.head s = ((tkM.text s).1, (tkM.num (tkM.text s).2 2).1, (tkM.num (tkM.num (tkM.text s).2 2).2 1).1, (tkM.num (tkM.num (tkM.text s).2 2).2 1).2) := rfl
  rw [eh] at hsd hfl
  simp only at hsd hfl
  show loop (manifest_Read.l5 Tx (i : Int) ps rec (tkM.text s) (((tkM.num (tkM.text s).2 2).1 : Int), (tkM.num (tkM.text s).2 2).2) (((tkM.num (tkM.num (tkM.text s).2 2).2 1).1 : Int), (tkM.num (tkM.num (tkM.text s).2 2).2 1).2)) _ = _
  generalize hE : tkM.num (tkM.num (tkM.text s).2 2).2 1 = E at hsd hfl g4 g5 ⊢
  generalize tkM.num (tkM.text s).2 2 = D at hsd hfl g3 g4 ⊢
  generalize tkM.text s = P at hsd hfl g2 g3 ⊢
  have hEl : E.2.b.length ≤ q.length := by have : P.2.b.length ≤ q.length := g2; omega
  refine loop_eq (S := Int × List UInt8 × Bool × List (List UInt8)) (σ := List UInt8 × Bool × List (List UInt8)) (fun j s => ((j : Int), s.1, s.2.1, s.2.2)) E.1 (fun j z => z.1.length ≤ q.length ∧ z.2.2.length = j ∧ (∀ x ∈ z.2.2, x.length = 32) ∧ (z.2.1 = false → E.2.bad = false ∧ E.2.b = z.2.2.flatten ++ z.1) ∧ (∀ (ids : List (List UInt8)) (t : List UInt8), E.2.bad = false → E.2.b = ids.flatten ++ t → (∀ x ∈ ids, x.length = 32) → ids.length = E.1 → z.2.1 = false ∧ z.2.2 = ids.take j ∧ z.1 = (ids.drop j).flatten ++ t)) _ (i0 := 0) (s0 := (E.2.b, E.2.bad, [])) rfl (Nat.zero_le _) ⟨hEl, rfl, fun x hx => by simp at hx, fun h => ⟨h, rfl⟩, fun ids t h1 h2 h3 h4 => ⟨h1, rfl, h2⟩⟩ (by omega) ?_ ?_
  ·rintro rec2 j ⟨z, zb, zi⟩ hj ⟨j1, j2, j3, j4, j5⟩ hrec2
   simp only at j1 j2 j3 j4 j5 hrec2
   simp only [manifest_Read.l5]
   rw [if_t (lt_t hj), show (32 : Int) = ((32 : Nat) : Int) from rfl, takeM_eq ⟨z, zb⟩ 32 (by omega) (by show z.length ≤ _; omega), bd_mk]
   have k1 := tkM.len ⟨z, zb⟩ 32
   have k2 := takeM_len ⟨z, zb⟩ 32
   have k3 := tkM.sound ⟨z, zb⟩ 32
   have k4 := tkM.full ⟨z, zb⟩
   have e3 : tkM.take = takeM := rfl
   rw [e3] at k1 k3 k4
   have ha : arr32 (takeM ⟨z, zb⟩ 32).1 = some (takeM ⟨z, zb⟩ 32).1 := by
    unfold arr32
    rw [if_pos (by omega), List.take_of_length_le (by omega)]
   rw [ha, bd_mk, app_ok (by simp; omega), bd_mk, wr_succ (by omega)]
   refine hrec2 ((takeM ⟨z, zb⟩ 32).2.b, (takeM ⟨z, zb⟩ 32).2.bad, zi ++ [(takeM ⟨z, zb⟩ 32).1]) ⟨?_, by simp [j2], fun x hx => ?_, fun hb => ?_, fun ids t h1 h2 h3 h4 => ?_⟩
   ·have : (takeM ⟨z, zb⟩ 32).2.b.length ≤ z.length := k2
    show (takeM ⟨z, zb⟩ 32).2.b.length ≤ q.length
    omega
   ·rcases List.mem_append.1 hx with h | h
    ·exact j3 x h
    ·simp at h; subst h; exact k1
   ·obtain ⟨l1, l2⟩ := k3 hb
    obtain ⟨l3, l4⟩ := j4 l1
    refine ⟨l3, ?_⟩
    have l5 : z = (takeM ⟨z, zb⟩ 32).1 ++ (takeM ⟨z, zb⟩ 32).2.b := l2
    rw [l4]
    conv => lhs; rw [l5]
    simp
   ·obtain ⟨l1, l2, l3⟩ := j5 ids t h1 h2 h3 h4
    have hjl : j < ids.length := by omega
    rw [List.drop_eq_getElem_cons hjl, List.flatten_cons, List.append_assoc] at l3
    have hx := h3 _ (List.getElem_mem hjl)
    obtain ⟨l4, l5, l6⟩ := k4 ids[j] ((ids.drop (j + 1)).flatten ++ t) l1 l3
    rw [hx] at l4 l5 l6
    exact ⟨l6, by show zi ++ [_] = _; rw [l2, l4, take_snoc' hjl], l5⟩
  ·rintro rec2 ⟨z, zb, zi⟩ ⟨j1, j2, j3, j4, j5⟩
   simp only at j1 j2 j3 j4 j5
   simp only [manifest_Read.l5, manifest_Read.k4, manifest_Read.k3]
   rw [if_f (lt_f (Nat.lt_irrefl _)), app_ok (by simp; omega), bd_mk, wr_succ (by omega)]
   have hstep : RInv b Tx.1 R.1 (i + 1) z zb (ps ++ [Part.mk P.1 (D.1 : Int) zi]) := by
    refine hI.step j1 (fun hzb => ?_) (fun p0 t hbad hw hq => ?_) hi
    ·obtain ⟨l1, l2⟩ := j4 hzb
     obtain ⟨l3, l4, l5, l6, l7⟩ := hsd l1
     have e4 : tkM.rest s = q := rfl
     have e5 : tkM.rest E.2 = E.2.b := rfl
     rw [e4, e5] at l7
     refine ⟨l3, ?_, l4, by show (0 : Int) ≤ (D.1 : Int); omega, by show (D.1 : Int) < 65536; omega, by show zi.length < 256; omega, j3⟩
     rw [partBytes_head _ D.1 rfl, l7, l2]
     simp only [j2, List.append_assoc]
    ·obtain ⟨w1, w2, w3, w4, w5⟩ := hw
     obtain ⟨n0, hn0⟩ := Int.eq_ofNat_of_zero_le w2
     have hn1 : n0 < 65536 := by omega
     rw [partBytes_head p0 n0 hn0, List.append_assoc] at hq
     obtain ⟨l1, l2, l3, l4, l5⟩ := hfl p0.path (p0.ids.flatten ++ t) n0 p0.ids.length w1 hn1 w4 hbad hq
     obtain ⟨l6, l7, l8⟩ := j5 p0.ids t l5 l4 w5 l3.symm
     rw [l3, List.take_length] at l7
     rw [l3, List.drop_length] at l8
     refine ⟨?_, l8, l6⟩
     obtain ⟨pp, ps0, pi⟩ := p0
     simp only at l1 l7 hn0
     rw [l1, l2, l7, hn0]
   cases hzb : zb with
   | true =>
    rw [if_pos rfl]
    rw [hzb] at hstep
    exact hfin _ _ _ _ hstep (fun h => by cases h)
   | false =>
    rw [if_neg (by simp)]
    rw [hzb] at hstep
    exact hrec (z, false, ps ++ [Part.mk P.1 (D.1 : Int) zi]) ⟨hstep, by simp [hpl]⟩
 ·rintro rec ⟨q, bad, ps⟩ ⟨hI, hpl⟩
  simp only at hI hpl
  simp only [manifest_Read.l2]
  rw [if_f (lt_f (Nat.lt_irrefl _))]
  exact hfin _ _ _ _ hI fun _ => rfl
end Go.Wk.Lf
end
section
namespace Go.Wk.Lf
open Go.V Go.Sort Go.Proofs
theorem only_some {α : Type} (b : Bool) (x z : α) : only b (some x) z = some (if b = true then x else z) := by
 cases b <;> rfl
def allN (n : Nat) (ok : Nat → Bool) : Bool := (List.range n).all ok
theorem allN_iff {n : Nat} {ok : Nat → Bool} : allN n ok = true ↔ ∀ i, i < n → ok i = true := by simp [allN]
theorem loop_allN {S A : Type} {F : (S → Option A) → S → Option A} (mk : Nat → S) (n : Nat) (ok : Nat → Bool) (K B : Option A) {x0 : S} (hx : x0 = mk 0) (hn : n < 4611686018427387904)
  (hstep : ∀ rec i, i < n → F rec (mk i) = if ok i = true then rec (mk (i + 1)) else B) (hend : ∀ rec, F rec (mk n) = K) : loop F x0 = if allN n ok = true then K else B := by
 rw [loop_all mk n ok K B hx hn hstep hend]
 by_cases h : allN n ok = true
 ·rw [if_pos h, if_pos (allN_iff.1 h)]
 ·rw [if_neg h, if_neg fun q => h (allN_iff.2 q)]
theorem loop_allI {A : Type} {F : (Int → Option A) → Int → Option A} (n : Nat) (ok : Nat → Bool) (K B : Option A) (hn : n < 4611686018427387904)
  (hstep : ∀ rec (i : Nat), i < n → F rec (i : Int) = if ok i = true then rec ((i + 1 : Nat) : Int) else B) (hend : ∀ rec, F rec (n : Int) = K) : loop F 0 = if allN n ok = true then K else B :=
 loop_allN (x0 := (0 : Int)) (fun i => (i : Int)) n ok K B rfl hn hstep hend
theorem allN_all {α : Type} [Inhabited α] (l : List α) (p : α → Bool) : allN l.length (fun i => p (l.getD i default)) = l.all p := by
 rw [Bool.eq_iff_iff, allN_iff]
 exact all_iff l p (fun i => p (l.getD i default)) fun i hi => by simp [hi]
theorem getD_lt {α : Type} [Inhabited α] {l : List α} {i : Nat} (h : i < l.length) : l.getD i default = l[i] := by simp [h]
def inB (n a b : Int) : Bool := decide (a ≤ n) && decide (n ≤ b)
theorem in_eq (n a b : Int) : catalog_in n a b = some (inB n a b) := rfl
def volB (v : Vol) : Bool := inB v.pool 0 1 && inB v.epoch 0 1048576 && ((decide (v.state = 2) && inB v.files 1 65535) || ((decide (v.state = 1) || decide (v.state = 3)) && decide (v.files = 0)))
def volsB (l : List Vol) : Bool := l.all volB && inB (l.length : Int) 1 8
theorem ite_not {α : Type} {b c : Bool} {x y : α} (h : b = !c) : (if b = true then x else y) = if c = true then y else x := by
 subst h; cases c <;> rfl
theorem vols_eq (l : List Vol) (hl : l.length ≤ 1073741824) : catalog_vols l = some (volsB l) := by
 unfold catalog_vols
 rw [loop_allI l.length (fun i => volB (l.getD i default)) (some (inB (l.length : Int) 1 8)) (some false) (by omega) ?_ ?_, allN_all]
 ·unfold volsB
  cases l.all volB <;> rfl
 ·intro rec i hi
  simp only [catalog_vols.l2]
  rw [if_t (lt_t hi), ix_lt hi, bd_mk]
  simp only [in_eq, only_some, bd_mk, wr_succ (show i < 4611686018427387904 by omega), getD_lt hi]
  refine ite_not ?_
  unfold volB
  cases inB l[i].pool 0 1 <;> cases inB l[i].epoch 0 1048576 <;> cases decide (l[i].state = 2) <;> cases inB l[i].files 1 65535 <;> simp
 ·intro rec
  simp only [catalog_vols.l2, catalog_vols.k1]
  rw [if_f (lt_f (Nat.lt_irrefl _))]
  rfl
def locB (vs : List Vol) (x : Loc) : Bool := inB x.vol 0 ((vs.length : Int) - 1) && decide ((vs.getD x.vol.toNat default).state = 2) && inB x.file 1 (vs.getD x.vol.toNat default).files && inB x.off 0 16777215 && inB x.len 13 8013
def afterB (a b : Loc) : Bool := if a.vol ≠ b.vol then decide (b.vol < a.vol) else if a.file ≠ b.file then decide (b.file < a.file) else decide (b.off < a.off)
theorem after_eq (a b : Loc) : catalog_after a b = some (afterB a b) := by
 unfold catalog_after afterB
 simp only [decide_eq_true_eq]
 split
 ·rfl
 ·split <;> rfl
def locOk (vs : List Vol) (l : List Loc) (i : Nat) : Bool := locB vs (l.getD i default) && (!decide (0 < i) || afterB (l.getD i default) (l.getD (i - 1) default))
def locsB (vs : List Vol) (l : List Loc) : Bool := decide (l.length ≤ 200) && allN l.length (locOk vs l)
theorem inB_iff {n a b : Int} : inB n a b = true ↔ a ≤ n ∧ n ≤ b := by simp [inB]
theorem ix_int {α : Type} [Inhabited α] {l : List α} {i : Int} (h0 : 0 ≤ i) (h1 : i ≤ (l.length : Int) - 1) : ix l i = some (l.getD i.toNat default) := by
 obtain ⟨n, rfl⟩ : ∃ n : Nat, i = n := ⟨i.toNat, by omega⟩
 rw [ix_lt (by omega), Int.toNat_natCast, getD_lt (by omega)]
theorem locs_eq (c : Catalog) (l : List Loc) (hv : c.vols.length ≤ 1073741824) : catalog_locs c l = some (locsB c.vols l) := by
 unfold catalog_locs locsB
 by_cases hl : l.length ≤ 200
 ·rw [if_f (decide_eq_false (by omega))]
  rw [loop_allI l.length (locOk c.vols l) (some true) (some false) (by omega) ?_ ?_, decide_eq_true hl]
  ·cases allN l.length (locOk c.vols l) <;> rfl
  ·intro rec i hi
   simp only [catalog_locs.l2]
   rw [if_t (lt_t hi), ix_lt hi, bd_mk]
   simp only [in_eq, only_some, bd_mk, wr_id (show (-9223372036854775808 : Int) ≤ (c.vols.length : Int) - 1 by omega) (by omega), wr_succ (show i < 4611686018427387904 by omega)]
   have e1 : l.getD i default = l[i] := getD_lt hi
   unfold locOk locB
   rw [e1]
   by_cases h1 : inB l[i].vol 0 ((c.vols.length : Int) - 1) = true
   ·obtain ⟨a0, a1⟩ := inB_iff.1 h1
    rw [h1, ix_int a0 a1]
    simp only [only_some, bd_mk, Bool.not_true, Bool.not_false, if_true]
    by_cases h0 : 0 < i
    ·have e2 : ix l (wr ((i : Int) - 1)) = some (l.getD (i - 1) default) := by
      rw [wr_pred h0 (by omega), ix_lt (show i - 1 < l.length by omega), getD_lt (by omega)]
     rw [e2]
     have h0' : decide ((0 : Int) < (i : Int)) = true := decide_eq_true (by omega)
     rw [h0', decide_eq_true h0]
     simp only [only_some, bd_mk, after_eq]
     refine ite_not ?_
     generalize inB l[i].off 0 16777215 = p
     generalize inB l[i].len 13 8013 = q
     by_cases hs : (c.vols.getD l[i].vol.toNat default).state = 2
     ·simp only [hs, ne_eq, not_true_eq_false, decide_false, decide_true, Bool.or_self, Bool.false_or, Bool.not_false, if_true, Bool.true_and, Bool.and_true]
      generalize inB l[i].file 1 (c.vols.getD l[i].vol.toNat default).files = s
      cases s <;> cases p <;> cases q <;> simp
     ·simp only [hs, ne_eq, not_false_eq_true, decide_true, decide_false, Bool.true_or, Bool.or_true, Bool.and_false, Bool.false_and, Bool.not_false, Bool.false_or]
    ·have h0' : decide ((0 : Int) < (i : Int)) = false := decide_eq_false (by omega)
     rw [h0', decide_eq_false h0]
     simp only [Bool.and_false, only_f, only_some, bd_mk, Bool.false_and, Bool.or_false, Bool.not_false, Bool.true_or, Bool.and_true]
     refine ite_not ?_
     generalize inB l[i].off 0 16777215 = p
     generalize inB l[i].len 13 8013 = q
     by_cases hs : (c.vols.getD l[i].vol.toNat default).state = 2
     ·simp only [hs, ne_eq, not_true_eq_false, decide_false, decide_true, Bool.or_self, Bool.false_or, Bool.not_false, if_true, Bool.true_and, Bool.and_true]
      generalize inB l[i].file 1 (c.vols.getD l[i].vol.toNat default).files = s
      cases s <;> cases p <;> cases q <;> simp
     ·simp only [hs, ne_eq, not_false_eq_true, decide_true, decide_false, Bool.true_or, Bool.or_true, Bool.and_false, Bool.false_and, Bool.not_false, Bool.false_or]
   ·rw [Bool.not_eq_true] at h1
    rw [h1]
    simp only [Bool.not_false, Bool.not_true, only_f, bd_mk, Bool.true_or, Bool.false_and, Bool.and_false, if_false, if_true]
    rfl
  ·intro rec
   simp only [catalog_locs.l2, catalog_locs.k1]
   rw [if_f (lt_f (Nat.lt_irrefl _))]
 ·rw [if_t (decide_eq_true (by omega)), decide_eq_false hl]; rfl
end Go.Wk.Lf
end
section
namespace Go.Wk.Lf
open Go.V Go.Sort Go.Proofs
def firstN (f : Nat → Bool) : Nat → Nat → Nat
 | _, 0 => 0
 | i, n + 1 => if f i = true then firstN f (i + 1) n + 1 else 0
def preN (n : Nat) (f : Nat → Bool) : Nat := firstN f 0 n
theorem firstN_le (f : Nat → Bool) : ∀ n i, firstN f i n ≤ n
 | 0, i => Nat.le_refl _
 | n + 1, i => by unfold firstN; split; exact Nat.succ_le_succ (firstN_le f n _); exact Nat.zero_le _
theorem firstN_yes (f : Nat → Bool) : ∀ n i q, q < firstN f i n → f (i + q) = true
 | 0, i, q, h => by cases h
 | n + 1, i, q, h => by
  unfold firstN at h
  split at h
  ·cases q with
   | zero => assumption
   | succ q => have := firstN_yes f n (i + 1) q (by omega); rwa [show i + 1 + q = i + (q + 1) by omega] at this
  ·cases h
theorem firstN_no (f : Nat → Bool) : ∀ n i, firstN f i n < n → f (i + firstN f i n) = false
 | 0, i, h => by cases h
 | n + 1, i, h => by
  unfold firstN at h ⊢
  split at h
  ·rename_i hf
   rw [if_pos hf]
   have := firstN_no f n (i + 1) (by omega); rwa [show i + 1 + firstN f (i + 1) n = i + (firstN f (i + 1) n + 1) by omega] at this
  ·rename_i hf
   rw [if_neg hf, Nat.add_zero]
   simpa using hf
theorem preN_le (n : Nat) (f : Nat → Bool) : preN n f ≤ n := firstN_le f n 0
theorem preN_yes {n : Nat} {f : Nat → Bool} {q : Nat} (h : q < preN n f) : f q = true := by have := firstN_yes f n 0 q h; rwa [Nat.zero_add] at this
theorem preN_no {n : Nat} {f : Nat → Bool} (h : preN n f < n) : f (preN n f) = false := by have := firstN_no f n 0 h; rwa [Nat.zero_add] at this
theorem preN_uniq {n : Nat} {f : Nat → Bool} {k : Nat} (hk : k ≤ n) (h1 : ∀ q, q < k → f q = true) (h2 : k < n → f k = false) : preN n f = k := by
 rcases Nat.lt_trichotomy (preN n f) k with h | h | h
 ·have := preN_no (n := n) (f := f) (by omega); rw [h1 _ h] at this; cases this
 ·exact h
 ·have := preN_yes h; rw [h2 (by have := preN_le n f; omega)] at this; cases this
theorem bs_loop {A : Type} {F : (Int × Int → Option A) → Int × Int → Option A} (n : Nat) (f : Nat → Bool) (K : Nat → Option A) (hn : n ≤ 1073741824) (hmono : ∀ i j, i < j → j < n → f j = true → f i = true)
  (hstep : ∀ rec (i j : Nat), i < j → j ≤ n → F rec ((i : Int), (j : Int)) = if f ((i + j) / 2) = true then rec ((((i + j) / 2 + 1 : Nat) : Int), (j : Int)) else rec ((i : Int), (((i + j) / 2 : Nat) : Int)))
  (hend : ∀ rec (i : Nat), i ≤ n → F rec ((i : Int), (i : Int)) = K i) : loop F (0, (n : Int)) = K (preN n f) := by
 refine loop_const (S := Int × Int) (fun s => ∃ i j : Nat, s = ((i : Int), (j : Int)) ∧ i ≤ j ∧ j ≤ n ∧ (∀ q, q < i → f q = true) ∧ ∀ q, j ≤ q → q < n → f q = false) (fun s => (s.2 - s.1).toNat) ⟨0, n, rfl, Nat.zero_le _, Nat.le_refl _, fun q h => by omega, fun q h1 h2 => by omega⟩ (by simp only; omega) ?_
 rintro rec s ⟨i, j, rfl, hij, hjn, h1, h2⟩ hrec
 by_cases h : i = j
 ·subst h
  rw [hend rec i hjn, preN_uniq hjn h1 fun h => h2 i (Nat.le_refl _) h]
 ·have hlt : i < j := by omega
  rw [hstep rec i j hlt hjn]
  by_cases hf : f ((i + j) / 2) = true
  ·rw [if_pos hf]
   refine hrec _ ⟨_, j, rfl, by omega, hjn, fun q hq => ?_, h2⟩ (by simp only; omega)
   by_cases hq2 : q = (i + j) / 2
   ·rw [hq2]; exact hf
   ·exact hmono q ((i + j) / 2) (by omega) (by omega) hf
  ·rw [if_neg hf]
   refine hrec _ ⟨i, _, rfl, by omega, by omega, h1, fun q hq hqn => ?_⟩ (by simp only; omega)
   by_cases hq2 : q = (i + j) / 2
   ·rw [hq2]; simpa using hf
   ·cases hfq : f q with
    | false => rfl
    | true => exact absurd (hmono ((i + j) / 2) q (by omega) hqn hfq) hf
theorem mid_eq {i j : Nat} (hi : i ≤ 1073741824) (hj : j ≤ 1073741824) : wr ((wu (wr ((i : Int) + (j : Int)))) / 2 ^ (1 : Int).toNat) = (((i + j) / 2 : Nat) : Int) := by
 have h1 : wr ((i : Int) + (j : Int)) = ((i + j : Nat) : Int) := by rw [wr_id (by omega) (by omega)]; omega
 have h2 : wu (((i + j : Nat) : Int)) = ((i + j : Nat) : Int) := by
  show IntKind.u64.wrap _ = _
  have : (((i + j : Nat) : Int) % (2 ^ 64 : Int)) = ((i + j : Nat) : Int) := Int.emod_eq_of_lt (by omega) (by omega)
  exact this
 rw [h1, h2]
 have h3 : (((i + j : Nat) : Int)) / 2 ^ (1 : Int).toNat = (((i + j) / 2 : Nat) : Int) := by
  show ((i + j : Nat) : Int) / 2 ^ 1 = _
  omega
 rw [h3, wr_id (by omega) (by omega)]
def placeN {α : Type} [Inhabited α] (l : List α) (lt : α → Bool) : Nat := preN l.length fun i => lt (l.getD i default)
theorem cmpT_neg (a b : List UInt8) : decide (cmpT a b < 0) = sLt a b := by rw [← cmpT_lt]; rfl
theorem cmpT_zero (a b : List UInt8) : decide (cmpT a b = 0) = decide (a = b) := by
 have h1 := cmpT_lt a b
 have h2 := cmpT_lt b a
 by_cases h : a = b
 ·subst h
  have : cmpT a a = 0 := by unfold cmpT; rw [sLt_irrefl]; rfl
  simp [this]
 ·have : cmpT a b ≠ 0 := by
   unfold cmpT
   by_cases h3 : sLt a b = true
   ·simp [h3]
   ·by_cases h4 : sLt b a = true
    ·simp [h3, h4]
    ·exact absurd (sLt_tri (by simpa using h3) (by simpa using h4)) h
  simp [this, h]
theorem corder_eq (a b : List UInt8) : catalog_order a b = some (cmpT a b) := rfl
def RisesC (l : List Chunk) : Prop := l.Pairwise fun a b => sLt a.id b.id = true
theorem pair_lt {α : Type} {R : α → α → Prop} {l : List α} (h : l.Pairwise R) {i j : Nat} (hij : i < j) (hj : j < l.length) : R (l[i]'(by omega)) l[j] := List.pairwise_iff_getElem.1 h i j (by omega) hj hij
def chunkAt (l : List Chunk) (id : List UInt8) : Nat := placeN l fun x => sLt x.id id
def hasId (l : List Chunk) (id : List UInt8) : Bool := decide (chunkAt l id < l.length) && decide ((l.getD (chunkAt l id) default).id = id)
theorem place_eq (l : List Chunk) (id : List UInt8) (hl : l.length ≤ 1073741824) (hr : RisesC l) :
  catalog_Place l id = some (((chunkAt l id : Nat) : Int), hasId l id) := by
 unfold catalog_Place
 rw [show slices_BinarySearchFunc_api_Chunk_api_Chunk_32_byte_catalog_Place_1 l id = some (((chunkAt l id : Nat) : Int), hasId l id) from ?_]
 ·rfl
 unfold hasId chunkAt placeN slices_BinarySearchFunc_api_Chunk_api_Chunk_32_byte_catalog_Place_1
 refine bs_loop l.length (fun i => sLt (l.getD i default).id id) (fun k => some ((k : Int), decide (k < l.length) && decide ((l.getD k default).id = id))) hl ?_ ?_ ?_
 ·intro i j hij hj h
  rw [getD_lt hj] at h
  rw [getD_lt (by omega)]
  exact sLt_trans (pair_lt hr hij hj) h
 ·intro rec i j hij hj
  simp only [slices_BinarySearchFunc_api_Chunk_api_Chunk_32_byte_catalog_Place_1.l2]
  have hm : (i + j) / 2 < l.length := by omega
  rw [if_t (lt_t hij), mid_eq (by omega) (by omega), ix_lt hm, bd_mk]
  simp only [catalog_Place_1, corder_eq, bd_mk, cmpT_neg, getD_lt hm, wr_succ (show (i + j) / 2 < 4611686018427387904 by omega)]
 ·intro rec i hi
  simp only [slices_BinarySearchFunc_api_Chunk_api_Chunk_32_byte_catalog_Place_1.l2, slices_BinarySearchFunc_api_Chunk_api_Chunk_32_byte_catalog_Place_1.k1]
  rw [if_f (lt_f (Nat.lt_irrefl _))]
  by_cases h : i < l.length
  ·simp only [lt_t h, ix_lt h, only_some, bd_mk, if_true, catalog_Place_1, corder_eq, Bool.true_and, getD_lt h, decide_eq_true h, cmpT_zero]
  ·simp only [lt_f h, only_f, bd_mk, Bool.false_and, decide_eq_false h]
end Go.Wk.Lf
end
section
namespace Go.Wk.Lf
open Go.V Go.Sort Go.Proofs
def findI (n : Nat) (p : Nat → Bool) : Int := if preN n (fun i => !p i) < n then (preN n (fun i => !p i) : Int) else -1
theorem index_loop {F : (Int → Option Int) → Int → Option Int} (n : Nat) (p : Nat → Bool) (hn : n < 4611686018427387904) (hstep : ∀ rec (i : Nat), i < n → F rec (i : Int) = if p i = true then some (i : Int) else rec ((i + 1 : Nat) : Int)) (hend : ∀ rec, F rec (n : Int) = some (-1)) : loop F 0 = some (findI n p) := by
 refine loop_eq (σ := Unit) (fun i _ => (i : Int)) n (fun i _ => ∀ q, q < i → p q = false) _ (i0 := 0) (s0 := ()) rfl (Nat.zero_le _) (fun q h => by omega) hn ?_ ?_
 ·intro rec i _ hi hI hrec
  rw [hstep rec i hi]
  by_cases h : p i = true
  ·rw [if_pos h]
   have hk : preN n (fun i => !p i) = i := preN_uniq (Nat.le_of_lt hi) (fun q hq => by rw [hI q hq]; rfl) (fun _ => by rw [h]; rfl)
   unfold findI
   rw [hk, if_pos hi]
  ·rw [if_neg h]
   refine hrec () fun q hq => ?_
   by_cases hq2 : q = i
   ·subst hq2; simpa using h
   ·exact hI q (by omega)
 ·intro rec _ hI
  rw [hend]
  unfold findI
  rw [show preN n (fun i => !p i) = n from preN_uniq (Nat.le_refl _) (fun q hq => by rw [hI q hq]; rfl) (fun h => by omega), if_neg (Nat.lt_irrefl _)]
theorem findI_nonneg {n : Nat} {p : Nat → Bool} : decide (0 ≤ findI n p) = !allN n (fun i => !p i) := by
 unfold findI
 by_cases h : preN n (fun i => !p i) < n
 ·rw [if_pos h]
  have : allN n (fun i => !p i) = false := by
   cases hq : allN n (fun i => !p i) with
   | false => rfl
   | true => have := allN_iff.1 hq _ h; rw [preN_no h] at this; cases this
  rw [this]
  simp
 ·rw [if_neg h]
  have h2 := preN_le n (fun i => !p i)
  have : allN n (fun i => !p i) = true := allN_iff.2 fun i hi => preN_yes (n := n) (f := fun i => !p i) (by omega)
  rw [this]; rfl
theorem cmpT_nn (a b : List UInt8) : decide (0 ≤ cmpT a b) = !sLt a b := by
 rw [← cmpT_neg]
 by_cases h : cmpT a b < 0
 ·simp [h]
 ·simp [h]; omega
def chunkB (x : Chunk) : Bool := if x.staged = true then inB (x.data.length : Int) 1 64 else decide (x.data.length = 0) && decide (0 < x.locs.length)
def chunkOk (c : Catalog) (i : Nat) : Bool := (!decide (0 < i) || sLt (c.chunks.getD (i - 1) default).id (c.chunks.getD i default).id) && locsB c.vols (c.chunks.getD i default).locs && chunkB (c.chunks.getD i default)
def chunksB (c : Catalog) : Bool := allN c.chunks.length (chunkOk c) && decide (c.chunks.length ≤ 200)
theorem chunks_eq (c : Catalog) (hv : c.vols.length ≤ 1073741824) (hl : c.chunks.length ≤ 1073741824) : catalog_chunks c = some (chunksB c) := by
 unfold catalog_chunks
 rw [loop_allI c.chunks.length (chunkOk c) (some (decide (c.chunks.length ≤ 200))) (some false) (by omega) ?_ ?_]
 ·unfold chunksB
  cases allN c.chunks.length (chunkOk c) <;> rfl
 ·intro rec i hi
  simp only [catalog_chunks.l2]
  rw [if_t (lt_t hi), ix_lt hi, bd_mk]
  have e1 : c.chunks.getD i default = c.chunks[i] := getD_lt hi
  simp only [in_eq, only_some, bd_mk, locs_eq _ _ hv, wr_succ (show i < 4611686018427387904 by omega), corder_eq]
  have key : ∀ (o : Bool) (x : Chunk), (if ((((o || !(if (!o) = true then locsB c.vols x.locs else false)) || ((!x.staged) && (decide (0 < (x.data.length : Int)) || decide ((x.locs.length : Int) = 0)))) || (x.staged && !(if ((!((o || !(if (!o) = true then locsB c.vols x.locs else false)) || ((!x.staged) && (decide (0 < (x.data.length : Int)) || decide ((x.locs.length : Int) = 0))))) && x.staged) = true then inB (x.data.length : Int) 1 64 else false)))) = true then some false else rec ((i + 1 : Nat) : Int)) = if (!o && locsB c.vols x.locs && chunkB x) = true then rec ((i + 1 : Nat) : Int) else some false := by
   intro o x
   refine ite_not ?_
   unfold chunkB
   have d1 : decide ((0 : Int) < (x.data.length : Int)) = !decide (x.data.length = 0) := by
    by_cases h : x.data.length = 0
    ·simp [h]
    ·rw [decide_eq_false h, decide_eq_true (by omega)]; rfl
   have d2 : decide ((x.locs.length : Int) = 0) = !decide (0 < x.locs.length) := by
    by_cases h : 0 < x.locs.length
    ·rw [decide_eq_true h, decide_eq_false (by omega)]; rfl
    ·rw [decide_eq_false h, decide_eq_true (by omega)]; rfl
   rw [d1, d2]
   generalize decide (x.data.length = 0) = p
   generalize decide (0 < x.locs.length) = q
   generalize inB (x.data.length : Int) 1 64 = s
   generalize locsB c.vols x.locs = u
   generalize x.staged = v
   cases o <;> cases p <;> cases q <;> cases s <;> cases u <;> cases v <;> rfl
  by_cases h0 : 0 < i
  ·have e2 : ix c.chunks (wr ((i : Int) - 1)) = some (c.chunks.getD (i - 1) default) := by
    rw [wr_pred h0 (by omega), ix_lt (show i - 1 < c.chunks.length by omega), getD_lt (by omega)]
   have h0' : decide ((0 : Int) < (i : Int)) = true := decide_eq_true (by omega)
   rw [e2, h0']
   simp only [only_some, bd_mk, if_true, Bool.true_and, cmpT_nn]
   refine (key _ _).trans ?_
   unfold chunkOk
   rw [e1, decide_eq_true h0]
   simp only [Bool.not_not, Bool.not_true, Bool.false_or]
  ·have h0' : decide ((0 : Int) < (i : Int)) = false := decide_eq_false (by omega)
   rw [h0']
   simp only [only_f, bd_mk, Bool.false_and]
   refine (key _ _).trans ?_
   unfold chunkOk
   rw [e1, decide_eq_false h0]
   rfl
 ·intro rec
  simp only [catalog_chunks.l2, catalog_chunks.k1]
  rw [if_f (lt_f (Nat.lt_irrefl _))]
  congr 1
  by_cases h : c.chunks.length ≤ 200
  ·rw [decide_eq_true h, decide_eq_true (by omega)]
  ·rw [decide_eq_false h, decide_eq_false (by omega)]
theorem chunksB_rises {c : Catalog} (h : chunksB c = true) : RisesC c.chunks := by
 unfold chunksB at h
 rw [Bool.and_eq_true, allN_iff] at h
 refine (adj_pairwise (fun a b : Chunk => sLt a.id b.id = true) (fun h1 h2 => sLt_trans h1 h2) c.chunks).2 fun i hi h0 => ?_
 have := h.1 i hi
 unfold chunkOk at this
 rw [getD_lt hi, getD_lt (show i - 1 < c.chunks.length by omega), decide_eq_true h0] at this
 simp only [Bool.not_true, Bool.false_or, Bool.and_eq_true] at this
 exact this.1.1
instance (m : Manifest) : Decidable (manB m) := by unfold manB risesP; infer_instance
def idsIn (c : Catalog) (m : Manifest) : Bool := allN m.parts.length fun i => allN (m.parts.getD i default).ids.length fun k => hasId c.chunks ((m.parts.getD i default).ids.getD k default)
def snapOk (c : Catalog) (i : Nat) : Bool := inB (c.snaps.getD i default).seq 0 (c.seq - 1) && (!decide (0 < i) || decide ((c.snaps.getD (i - 1) default).seq < (c.snaps.getD i default).seq)) && !decide ((c.snaps.getD i default).man.name ∈ (c.snaps.take i).map fun s => s.man.name) && decide (manB (c.snaps.getD i default).man) && locsB c.vols (c.snaps.getD i default).locs && idsIn c (c.snaps.getD i default).man
def snapsB (c : Catalog) : Bool := allN c.snaps.length (snapOk c) && decide (c.snaps.length ≤ 8)
def namesM (l : List Snap) : List UInt8 → Option Bool := fun k => if k ∈ l.map (fun s => s.man.name) then some true else none
theorem namesM_put (l : List Snap) (s : Snap) : mput (namesM l) s.man.name true = namesM (l ++ [s]) := by
 funext k
 simp only [mput, namesM, List.map_append, List.map_cons, List.map_nil, List.mem_append, List.mem_singleton]
 by_cases h : k = s.man.name
 ·simp [h]
 ·simp [h]
theorem snaps_eq (c : Catalog) (hv : c.vols.length ≤ 1073741824) (hc : c.chunks.length ≤ 1073741824) (hr : RisesC c.chunks) (hl : c.snaps.length ≤ 1073741824) (h0 : 0 ≤ c.seq) (h1 : c.seq ≤ 1073741824) : catalog_snaps c = some (snapsB c) := by
 unfold catalog_snaps
 rw [show ((0 : Int), (mnil : List UInt8 → Option Bool)) = ((fun i : Nat => ((i : Int), namesM (c.snaps.take i))) 0) from by simp [namesM]; rfl]
 rw [loop_allN (fun i : Nat => ((i : Int), namesM (c.snaps.take i))) c.snaps.length (snapOk c) (some (decide (c.snaps.length ≤ 8))) (some false) rfl (by omega) ?_ ?_]
 ·unfold snapsB
  cases allN c.snaps.length (snapOk c) <;> rfl
 ·intro rec i hi
  simp only [catalog_snaps.l2]
  rw [if_t (lt_t hi), ix_lt hi, bd_mk]
  have e1 : c.snaps.getD i default = c.snaps[i] := getD_lt hi
  simp only [in_eq, only_some, bd_mk, locs_eq _ _ hv, mcheck_eq, wr_id (show (-9223372036854775808 : Int) ≤ c.seq - 1 by omega) (by omega)]
  have hm : (namesM (c.snaps.take i) c.snaps[i].man.name).getD false = decide (c.snaps[i].man.name ∈ (c.snaps.take i).map fun s => s.man.name) := by
   unfold namesM
   by_cases h : c.snaps[i].man.name ∈ (c.snaps.take i).map fun s => s.man.name
   ·rw [if_pos h, decide_eq_true h]; rfl
   ·rw [if_neg h, decide_eq_false h]; rfl
  rw [hm]
  have hin : manB c.snaps[i].man → loop (catalog_snaps.l4 c (i : Int) (namesM (c.snaps.take i)) rec c.snaps[i]) 0 = if idsIn c c.snaps[i].man = true then rec (((i + 1 : Nat) : Int), namesM (c.snaps.take (i + 1))) else some false := by
   intro hman
   refine loop_allI c.snaps[i].man.parts.length _ _ _ (by have := hman.2.1; omega) ?_ ?_
   ·intro rec2 j hj
    simp only [catalog_snaps.l4]
    rw [if_t (lt_t hj), ix_lt hj, bd_mk, getD_lt hj]
    have hids : c.snaps[i].man.parts[j].ids.length ≤ 25 := (partB_num (manB_parts hman _ (List.getElem_mem hj))).2.2.2.1
    refine loop_allI c.snaps[i].man.parts[j].ids.length _ _ _ (by omega) ?_ ?_
    ·intro rec3 k hk
     simp only [catalog_snaps.l6]
     rw [if_t (lt_t hk), ix_lt hk, bd_mk, place_eq _ _ hc hr, bd_mk, getD_lt hk, wr_succ (by omega)]
     exact ite_not rfl
    ·intro rec3
     simp only [catalog_snaps.l6, catalog_snaps.k5]
     rw [if_f (lt_f (Nat.lt_irrefl _)), wr_succ (by have := hman.2.1; omega)]
   ·intro rec2
    simp only [catalog_snaps.l4, catalog_snaps.k3]
    rw [if_f (lt_f (Nat.lt_irrefl _)), wr_succ (by omega), namesM_put, take_snoc' hi]
  have key : ∀ (o : Bool), (if ((((!inB c.snaps[i].seq 0 (c.seq - 1) || o) || decide (c.snaps[i].man.name ∈ (c.snaps.take i).map fun s => s.man.name)) || decide ((if (!((!inB c.snaps[i].seq 0 (c.seq - 1) || o) || decide (c.snaps[i].man.name ∈ (c.snaps.take i).map fun s => s.man.name))) = true then (if manB c.snaps[i].man then (0 : Int) else 1) else 0) ≠ 0)) || !(if (!(((!inB c.snaps[i].seq 0 (c.seq - 1) || o) || decide (c.snaps[i].man.name ∈ (c.snaps.take i).map fun s => s.man.name)) || decide ((if (!((!inB c.snaps[i].seq 0 (c.seq - 1) || o) || decide (c.snaps[i].man.name ∈ (c.snaps.take i).map fun s => s.man.name))) = true then (if manB c.snaps[i].man then (0 : Int) else 1) else 0) ≠ 0))) = true then locsB c.vols c.snaps[i].locs else false)) = true then some false else loop (catalog_snaps.l4 c (i : Int) (namesM (c.snaps.take i)) rec c.snaps[i]) 0) =
    if (inB c.snaps[i].seq 0 (c.seq - 1) && !o && !decide (c.snaps[i].man.name ∈ (c.snaps.take i).map fun s => s.man.name) && decide (manB c.snaps[i].man) && locsB c.vols c.snaps[i].locs && idsIn c c.snaps[i].man) = true then rec (((i + 1 : Nat) : Int), namesM (c.snaps.take (i + 1))) else some false := by
   intro o
   by_cases hman : manB c.snaps[i].man
   ·rw [hin hman]
    simp only [hman, if_true, decide_true]
    generalize idsIn c c.snaps[i].man = p
    generalize locsB c.vols c.snaps[i].locs = q
    generalize decide (c.snaps[i].man.name ∈ (c.snaps.take i).map fun s => s.man.name) = s
    generalize inB c.snaps[i].seq 0 (c.seq - 1) = u
    cases o <;> cases p <;> cases q <;> cases s <;> cases u <;> rfl
   ·simp only [hman, if_false, decide_false]
    generalize idsIn c c.snaps[i].man = p
    generalize locsB c.vols c.snaps[i].locs = q
    generalize decide (c.snaps[i].man.name ∈ (c.snaps.take i).map fun s => s.man.name) = s
    generalize inB c.snaps[i].seq 0 (c.seq - 1) = u
    cases o <;> cases p <;> cases q <;> cases s <;> cases u <;> rfl
  by_cases hi0 : 0 < i
  ·have e2 : ix c.snaps (wr ((i : Int) - 1)) = some (c.snaps.getD (i - 1) default) := by
    rw [wr_pred hi0 (by omega), ix_lt (show i - 1 < c.snaps.length by omega), getD_lt (by omega)]
   have h0' : decide ((0 : Int) < (i : Int)) = true := decide_eq_true (by omega)
   rw [e2, h0']
   simp only [only_some, bd_mk, Bool.true_and, Bool.and_true]
   have hdd : ∀ z : Snap, (!inB c.snaps[i].seq 0 (c.seq - 1) || decide (c.snaps[i].seq ≤ (if (!!inB c.snaps[i].seq 0 (c.seq - 1)) = true then c.snaps.getD (i - 1) default else z).seq)) = (!inB c.snaps[i].seq 0 (c.seq - 1) || !decide ((c.snaps.getD (i - 1) default).seq < c.snaps[i].seq)) := by
    intro z
    cases inB c.snaps[i].seq 0 (c.seq - 1) with
    | false => rfl
    | true =>
     simp only [Bool.not_true, Bool.not_false, if_true, Bool.false_or]
     by_cases h : (c.snaps.getD (i - 1) default).seq < c.snaps[i].seq
     ·rw [decide_eq_true h, decide_eq_false (by omega)]; rfl
     ·rw [decide_eq_false h, decide_eq_true (by omega)]; rfl
   rw [hdd]
   refine (key _).trans ?_
   unfold snapOk
   rw [e1, decide_eq_true hi0]
   simp only [Bool.not_not, Bool.not_true, Bool.false_or]
  ·have h0' : decide ((0 : Int) < (i : Int)) = false := decide_eq_false (by omega)
   rw [h0']
   simp only [Bool.and_false, Bool.false_and, only_f, bd_mk]
   refine (key _).trans ?_
   unfold snapOk
   rw [e1, decide_eq_false hi0]
   rfl
 ·intro rec
  simp only [catalog_snaps.l2, catalog_snaps.k1]
  rw [if_f (lt_f (Nat.lt_irrefl _))]
  congr 1
  by_cases h : c.snaps.length ≤ 8
  ·rw [decide_eq_true h, decide_eq_true (by omega)]
  ·rw [decide_eq_false h, decide_eq_false (by omega)]
def expOk (c : Catalog) (i : Nat) : Bool := inB (c.exps.getD i default).seq 0 (c.seq - 1) && (!decide (0 < i) || decide ((c.exps.getD (i - 1) default).seq < (c.exps.getD i default).seq)) && inB (c.exps.getD i default).of 0 ((c.exps.getD i default).seq - 1) && decide (0 < (c.exps.getD i default).locs.length) && locsB c.vols (c.exps.getD i default).locs && allN c.snaps.length fun k => !decide ((c.snaps.getD k default).seq = (c.exps.getD i default).of)
def expsB (c : Catalog) : Bool := allN c.exps.length (expOk c) && decide (c.exps.length ≤ 200)
theorem contains_exp (l : List Snap) (x : Exp) (hl : l.length ≤ 1073741824) : slices_ContainsFunc_api_Snap_api_Snap_catalog_exps_1 l x = some (!allN l.length fun k => !decide ((l.getD k default).seq = x.of)) := by
 unfold slices_ContainsFunc_api_Snap_api_Snap_catalog_exps_1 slices_IndexFunc_api_Snap_api_Snap_catalog_exps_1
 rw [index_loop l.length (fun k => decide ((l.getD k default).seq = x.of)) (by omega) ?_ ?_, bd_mk, findI_nonneg]
 ·intro rec i hi
  simp only [slices_IndexFunc_api_Snap_api_Snap_catalog_exps_1.l2]
  rw [if_t (lt_t hi), ix_lt hi, bd_mk, getD_lt hi, wr_succ (by omega)]
  rfl
 ·intro rec
  simp only [slices_IndexFunc_api_Snap_api_Snap_catalog_exps_1.l2, slices_IndexFunc_api_Snap_api_Snap_catalog_exps_1.k1]
  rw [if_f (lt_f (Nat.lt_irrefl _))]
theorem exps_eq (c : Catalog) (hv : c.vols.length ≤ 1073741824) (hs : c.snaps.length ≤ 1073741824) (hl : c.exps.length ≤ 1073741824) (h0 : 0 ≤ c.seq) (h1 : c.seq ≤ 1073741824) : catalog_exps c = some (expsB c) := by
 unfold catalog_exps
 rw [loop_allI c.exps.length (expOk c) (some (decide (c.exps.length ≤ 200))) (some false) (by omega) ?_ ?_]
 ·unfold expsB
  cases allN c.exps.length (expOk c) <;> rfl
 ·intro rec i hi
  simp only [catalog_exps.l2]
  rw [if_t (lt_t hi), ix_lt hi, bd_mk]
  have e1 : c.exps.getD i default = c.exps[i] := getD_lt hi
  simp only [in_eq, only_some, bd_mk, locs_eq _ _ hv, contains_exp _ _ hs, wr_id (show (-9223372036854775808 : Int) ≤ c.seq - 1 by omega) (by omega), wr_succ (show i < 4611686018427387904 by omega)]
  have d2 : decide ((c.exps[i].locs.length : Int) = 0) = !decide (0 < c.exps[i].locs.length) := by
   by_cases h : 0 < c.exps[i].locs.length
   ·rw [decide_eq_true h, decide_eq_false (by omega)]; rfl
   ·rw [decide_eq_false h, decide_eq_true (by omega)]; rfl
  rw [d2]
  have hw : inB c.exps[i].seq 0 (c.seq - 1) = true → wr (c.exps[i].seq - 1) = c.exps[i].seq - 1 := fun h => by
   obtain ⟨q1, q2⟩ := inB_iff.1 h
   exact wr_id (by omega) (by omega)
  have key : ∀ (o : Bool), (if ((((!inB c.exps[i].seq 0 (c.seq - 1) || o) || !(if (!(!inB c.exps[i].seq 0 (c.seq - 1) || o)) = true then inB c.exps[i].of 0 (wr (c.exps[i].seq - 1)) else false)) || !decide (0 < c.exps[i].locs.length)) || !(if (!(((!inB c.exps[i].seq 0 (c.seq - 1) || o) || !(if (!(!inB c.exps[i].seq 0 (c.seq - 1) || o)) = true then inB c.exps[i].of 0 (wr (c.exps[i].seq - 1)) else false)) || !decide (0 < c.exps[i].locs.length))) = true then locsB c.vols c.exps[i].locs else false)) = true then some false else if (!allN c.snaps.length fun k => !decide ((c.snaps.getD k default).seq = c.exps[i].of)) = true then some false else rec ((i + 1 : Nat) : Int)) =
    if (inB c.exps[i].seq 0 (c.seq - 1) && !o && inB c.exps[i].of 0 (c.exps[i].seq - 1) && decide (0 < c.exps[i].locs.length) && locsB c.vols c.exps[i].locs && allN c.snaps.length fun k => !decide ((c.snaps.getD k default).seq = c.exps[i].of)) = true then rec ((i + 1 : Nat) : Int) else some false := by
   intro o
   cases hin : inB c.exps[i].seq 0 (c.seq - 1) with
   | false => rfl
   | true =>
    rw [hw hin]
    generalize (allN c.snaps.length fun k => !decide ((c.snaps.getD k default).seq = c.exps[i].of)) = p
    generalize locsB c.vols c.exps[i].locs = q
    generalize decide (0 < c.exps[i].locs.length) = s
    generalize inB c.exps[i].of 0 (c.exps[i].seq - 1) = u
    cases o <;> cases p <;> cases q <;> cases s <;> cases u <;> rfl
  by_cases hi0 : 0 < i
  ·have e2 : ix c.exps (wr ((i : Int) - 1)) = some (c.exps.getD (i - 1) default) := by
    rw [wr_pred hi0 (by omega), ix_lt (show i - 1 < c.exps.length by omega), getD_lt (by omega)]
   have h0' : decide ((0 : Int) < (i : Int)) = true := decide_eq_true (by omega)
   rw [e2, h0']
   simp only [only_some, bd_mk, Bool.true_and, Bool.and_true]
   have hdd : ∀ z : Exp, (!inB c.exps[i].seq 0 (c.seq - 1) || decide (c.exps[i].seq ≤ (if (!!inB c.exps[i].seq 0 (c.seq - 1)) = true then c.exps.getD (i - 1) default else z).seq)) = (!inB c.exps[i].seq 0 (c.seq - 1) || !decide ((c.exps.getD (i - 1) default).seq < c.exps[i].seq)) := by
    intro z
    cases inB c.exps[i].seq 0 (c.seq - 1) with
    | false => rfl
    | true =>
     simp only [Bool.not_true, Bool.not_false, if_true, Bool.false_or]
     by_cases h : (c.exps.getD (i - 1) default).seq < c.exps[i].seq
     ·rw [decide_eq_true h, decide_eq_false (by omega)]; rfl
     ·rw [decide_eq_false h, decide_eq_true (by omega)]; rfl
   rw [hdd]
   refine (key _).trans ?_
   unfold expOk
   rw [e1, decide_eq_true hi0]
   simp only [Bool.not_not, Bool.not_true, Bool.false_or]
  ·have h0' : decide ((0 : Int) < (i : Int)) = false := decide_eq_false (by omega)
   rw [h0']
   simp only [Bool.and_false, Bool.false_and, only_f, bd_mk]
   refine (key _).trans ?_
   unfold expOk
   rw [e1, decide_eq_false hi0]
   rfl
 ·intro rec
  simp only [catalog_exps.l2, catalog_exps.k1]
  rw [if_f (lt_f (Nat.lt_irrefl _))]
  congr 1
  by_cases h : c.exps.length ≤ 200
  ·rw [decide_eq_true h, decide_eq_true (by omega)]
  ·rw [decide_eq_false h, decide_eq_false (by omega)]
def catB (c : Catalog) : Bool := inB c.seq 0 1073741824 && volsB c.vols && chunksB c && snapsB c && expsB c
theorem check_eq (c : Catalog) (hv : c.vols.length ≤ 1073741824) (hc : c.chunks.length ≤ 1073741824) (hs : c.snaps.length ≤ 1073741824) (he : c.exps.length ≤ 1073741824) : catalog_Check c = some (if catB c = true then 0 else 1) := by
 unfold catalog_Check catB
 rw [in_eq, bd_mk, vols_eq _ hv, only_some, bd_mk, chunks_eq _ hv hc, only_some, bd_mk]
 cases h1 : inB c.seq 0 1073741824 with
 | false => rfl
 | true =>
  obtain ⟨s0, s1⟩ := inB_iff.1 h1
  rw [exps_eq c hv hs he s0 s1]
  cases h2 : volsB c.vols with
  | false => rfl
  | true =>
   cases h3 : chunksB c with
   | false => rfl
   | true =>
    rw [snaps_eq c hv hc (chunksB_rises h3) hs s0 s1]
    cases h4 : snapsB c with
    | false => rfl
    | true => cases h5 : expsB c <;> rfl
end Go.Wk.Lf
end
section
namespace Go.Wk.Lf
open Go.V Go.Sort Go.Proofs
theorem rows_same {α : Type} [DecidableEq α] [Inhabited α] {F : (Int → Option Bool) → Int → Option Bool} {a b : List α} (hn : a.length < 4611686018427387904)
  (hstep : ∀ rec (i : Nat) (h1 : i < a.length) (h2 : i < b.length), F rec (i : Int) = if decide (a[i] = b[i]) = true then rec ((i + 1 : Nat) : Int) else some false) (hend : ∀ rec, F rec (a.length : Int) = some true) :
  (if decide ((a.length : Int) ≠ (b.length : Int)) = true then some false else loop F 0) = some (decide (a = b)) := by
 by_cases hl : a.length = b.length
 ·rw [if_f (decide_eq_false (by omega)), loop_allI a.length (fun i => decide (a.getD i default = b.getD i default)) (some true) (some false) hn ?_ hend]
  ·by_cases h : a = b
   ·subst h
    rw [if_pos (allN_iff.2 fun i hi => by simp), decide_eq_true rfl]
   ·rw [if_neg ?_, decide_eq_false h]
    intro q
    refine h (List.ext_getElem hl fun i h1 h2 => ?_)
    have := allN_iff.1 q i h1
    rw [getD_lt h1, getD_lt h2] at this
    exact of_decide_eq_true this
  ·intro rec i hi
   rw [hstep rec i hi (by omega), getD_lt hi, getD_lt (show i < b.length by omega)]
 ·rw [if_t (decide_eq_true (by omega)), decide_eq_false fun h => hl (by rw [h])]
theorem kbytes_eq (a b : List UInt8) (h : a.length ≤ 1073741824) : cellarerkeep_Bytes a b = some (decide (a = b)) := by
 unfold cellarerkeep_Bytes
 refine rows_same (by omega) (fun rec i h1 h2 => ?_) (fun rec => ?_)
 ·simp only [cellarerkeep_Bytes.l2]
  rw [if_t (lt_t h1), ix_lt h1, bd_mk, ix_lt h2, bd_mk, wr_succ (by omega)]
  refine ite_not ?_
  by_cases h : a[i] = b[i]
  ·simp [h]
  ·have : (a[i].toNat : Int) ≠ (b[i].toNat : Int) := fun q => h (UInt8.toNat_inj.1 (by omega))
   simp [h, this]
 ·simp only [cellarerkeep_Bytes.l2, cellarerkeep_Bytes.k1]
  rw [if_f (lt_f (Nat.lt_irrefl _))]
theorem kids_eq (a b : List (List UInt8)) (h : a.length ≤ 1073741824) : cellarerkeep_Ids a b = some (decide (a = b)) := by
 unfold cellarerkeep_Ids
 refine rows_same (by omega) (fun rec i h1 h2 => ?_) (fun rec => ?_)
 ·simp only [cellarerkeep_Ids.l2]
  rw [if_t (lt_t h1), ix_lt h1, bd_mk, ix_lt h2, bd_mk, wr_succ (by omega)]
  exact ite_not rfl
 ·simp only [cellarerkeep_Ids.l2, cellarerkeep_Ids.k1]
  rw [if_f (lt_f (Nat.lt_irrefl _))]
theorem kloc_eq (a b : Loc) : cellarerkeep_Loc a b = some (decide (a = b)) := by
 unfold cellarerkeep_Loc
 congr 1
 obtain ⟨a1, a2, a3, a4⟩ := a
 obtain ⟨b1, b2, b3, b4⟩ := b
 simp only [Loc.mk.injEq, Bool.decide_and]
 cases decide (a1 = b1) <;> cases decide (a2 = b2) <;> cases decide (a3 = b3) <;> rfl
theorem klocs_eq (a b : List Loc) (h : a.length ≤ 1073741824) : cellarerkeep_Locs a b = some (decide (a = b)) := by
 unfold cellarerkeep_Locs
 refine rows_same (by omega) (fun rec i h1 h2 => ?_) (fun rec => ?_)
 ·simp only [cellarerkeep_Locs.l2]
  rw [if_t (lt_t h1), ix_lt h1, bd_mk, ix_lt h2, bd_mk, kloc_eq, bd_mk, wr_succ (by omega)]
  exact ite_not rfl
 ·simp only [cellarerkeep_Locs.l2, cellarerkeep_Locs.k1]
  rw [if_f (lt_f (Nat.lt_irrefl _))]
theorem kvols_eq (a b : List Vol) (h : a.length ≤ 1073741824) : cellarerkeep_Vols a b = some (decide (a = b)) := by
 unfold cellarerkeep_Vols
 refine rows_same (by omega) (fun rec i h1 h2 => ?_) (fun rec => ?_)
 ·simp only [cellarerkeep_Vols.l2]
  rw [if_t (lt_t h1), ix_lt h1, bd_mk, ix_lt h2, bd_mk, wr_succ (by omega)]
  refine ite_not ?_
  generalize a[i] = x
  generalize b[i] = y
  obtain ⟨a1, a2, a3, a4⟩ := x
  obtain ⟨b1, b2, b3, b4⟩ := y
  simp only [Vol.mk.injEq, Bool.decide_and, ne_eq, decide_not]
  cases decide (a1 = b1) <;> cases decide (a2 = b2) <;> cases decide (a3 = b3) <;> rfl
 ·simp only [cellarerkeep_Vols.l2, cellarerkeep_Vols.k1]
  rw [if_f (lt_f (Nat.lt_irrefl _))]
def smallK (x : Chunk) : Prop := x.data.length ≤ 1073741824 ∧ x.locs.length ≤ 1073741824
def smallM (m : Manifest) : Prop := m.parts.length ≤ 1073741824 ∧ ∀ p ∈ m.parts, p.ids.length ≤ 1073741824
def smallS (s : Snap) : Prop := smallM s.man ∧ s.locs.length ≤ 1073741824
def smallC (c : Catalog) : Prop := c.vols.length ≤ 1073741824 ∧ (c.chunks.length ≤ 1073741824 ∧ ∀ x ∈ c.chunks, smallK x) ∧ (c.snaps.length ≤ 1073741824 ∧ ∀ s ∈ c.snaps, smallS s) ∧ c.exps.length ≤ 1073741824 ∧ ∀ x ∈ c.exps, x.locs.length ≤ 1073741824
theorem and_only {p : Bool} {o : Option Bool} {q : Bool} (h : o = some q) : only p o false = some (p && q) := by
 subst h; cases p <;> rfl
theorem kman_eq (a b : Manifest) (h : smallM a) : cellarerkeep_Manifest a b = some (decide (a = b)) := by
 unfold cellarerkeep_Manifest
 obtain ⟨an, ap⟩ := a
 obtain ⟨bn, bp⟩ := b
 by_cases hn : an = bn
 ·subst hn
  simp only [beq_self_eq_true, Bool.not_true, Bool.false_or, Manifest.mk.injEq, true_and]
  refine rows_same (by have := h.1; simp only at this; omega) (fun rec i h1 h2 => ?_) (fun rec => ?_)
  ·simp only [cellarerkeep_Manifest.l2]
   have hi := h.2 ap[i] (List.getElem_mem h1)
   rw [if_t (lt_t h1), ix_lt h1, bd_mk, ix_lt h2, bd_mk, and_only (kids_eq _ _ hi), bd_mk, wr_succ (by have := h.1; simp only at this; omega)]
   refine ite_not ?_
   generalize ap[i] = x
   generalize bp[i] = y
   obtain ⟨a1, a2, a3⟩ := x
   obtain ⟨b1, b2, b3⟩ := y
   simp only [Part.mk.injEq, Bool.decide_and, ne_eq, decide_not]
   have : (a1 == b1) = decide (a1 = b1) := by rw [Bool.eq_iff_iff]; simp
   rw [this]
   cases decide (a1 = b1) <;> cases decide (a2 = b2) <;> cases decide (a3 = b3) <;> rfl
  ·simp only [cellarerkeep_Manifest.l2, cellarerkeep_Manifest.k1]
   rw [if_f (lt_f (Nat.lt_irrefl _))]
 ·rw [if_t (by simp [hn]), decide_eq_false fun q => hn (Manifest.mk.inj q).1]
theorem ksnap_eq (a b : Snap) (h : smallS a) : cellarerkeep_Snap a b = some (decide (a = b)) := by
 unfold cellarerkeep_Snap
 rw [and_only (kman_eq _ _ h.1), bd_mk, and_only (klocs_eq _ _ h.2), bd_mk]
 congr 1
 obtain ⟨a1, a2, a3⟩ := a
 obtain ⟨b1, b2, b3⟩ := b
 simp only [Snap.mk.injEq, Bool.decide_and]
 cases decide (a1 = b1) <;> cases decide (a2 = b2) <;> cases decide (a3 = b3) <;> rfl
theorem kchunk_eq (a b : Chunk) (h : smallK a) : cellarerkeep_Chunk a b = some (decide (a = b)) := by
 unfold cellarerkeep_Chunk
 rw [and_only (kbytes_eq _ _ h.1), bd_mk, and_only (klocs_eq _ _ h.2), bd_mk]
 congr 1
 obtain ⟨a1, a2, a3, a4⟩ := a
 obtain ⟨b1, b2, b3, b4⟩ := b
 simp only [Chunk.mk.injEq, Bool.decide_and]
 have : (a2 == b2) = decide (a2 = b2) := by cases a2 <;> cases b2 <;> rfl
 rw [this]
 cases decide (a1 = b1) <;> cases decide (a2 = b2) <;> cases decide (a3 = b3) <;> cases decide (a4 = b4) <;> rfl
theorem kchunks_eq (a b : List Chunk) (h : a.length ≤ 1073741824) (hs : ∀ x ∈ a, smallK x) : cellarerkeep_Chunks a b = some (decide (a = b)) := by
 unfold cellarerkeep_Chunks
 refine rows_same (by omega) (fun rec i h1 h2 => ?_) (fun rec => ?_)
 ·simp only [cellarerkeep_Chunks.l2]
  rw [if_t (lt_t h1), ix_lt h1, bd_mk, ix_lt h2, bd_mk, kchunk_eq _ _ (hs _ (List.getElem_mem h1)), bd_mk, wr_succ (by omega)]
  exact ite_not rfl
 ·simp only [cellarerkeep_Chunks.l2, cellarerkeep_Chunks.k1]
  rw [if_f (lt_f (Nat.lt_irrefl _))]
def sameC (a b : Catalog) : Prop := a.snaps = b.snaps ∧ a.chunks = b.chunks ∧ a.exps = b.exps ∧ a.vols = b.vols
instance (a b : Catalog) : Decidable (sameC a b) := by unfold sameC; infer_instance
theorem sameC_refl (a : Catalog) : sameC a a := ⟨rfl, rfl, rfl, rfl⟩
theorem loop_same {α : Type} [DecidableEq α] [Inhabited α] {F : (Int → Option Bool) → Int → Option Bool} {a b : List α} {K : Option Bool} (hl : a.length = b.length) (hn : a.length < 4611686018427387904)
  (hstep : ∀ rec (i : Nat) (h1 : i < a.length) (h2 : i < b.length), F rec (i : Int) = if decide (a[i] = b[i]) = true then rec ((i + 1 : Nat) : Int) else some false) (hend : ∀ rec, F rec (a.length : Int) = K) :
  loop F 0 = if decide (a = b) = true then K else some false := by
 rw [loop_allI a.length (fun i => decide (a.getD i default = b.getD i default)) K (some false) hn ?_ hend]
 ·by_cases h : a = b
  ·subst h
   rw [if_pos (allN_iff.2 fun i hi => by simp), if_t (decide_eq_true rfl)]
  ·rw [if_neg ?_, if_f (decide_eq_false h)]
   intro q
   refine h (List.ext_getElem hl fun i h1 h2 => ?_)
   have := allN_iff.1 q i h1
   rw [getD_lt h1, getD_lt h2] at this
   exact of_decide_eq_true this
 ·intro rec i hi
  rw [hstep rec i hi (by omega), getD_lt hi, getD_lt (show i < b.length by omega)]
theorem kcat_eq (a b : Catalog) (h : smallC a) : cellarerkeep_Catalog a b = some (decide (sameC a b)) := by
 obtain ⟨hv, ⟨hc, hc2⟩, ⟨hs, hs2⟩, he, he2⟩ := h
 unfold cellarerkeep_Catalog
 rw [and_only (kchunks_eq _ _ hc hc2), bd_mk, and_only (kvols_eq _ _ hv), bd_mk]
 by_cases l1 : a.snaps.length = b.snaps.length
 ·by_cases l2 : a.exps.length = b.exps.length
  ·have d1 : (decide ((a.snaps.length : Int) ≠ (b.snaps.length : Int)) || decide ((a.exps.length : Int) ≠ (b.exps.length : Int))) = false := by
    rw [decide_eq_false (by omega), decide_eq_false (by omega)]; rfl
   rw [d1]
   by_cases e1 : a.chunks = b.chunks
   ·by_cases e2 : a.vols = b.vols
    ·rw [decide_eq_true e1, decide_eq_true e2]
     simp only [Bool.false_or, Bool.not_false, Bool.true_and, Bool.not_true, Bool.false_eq_true, if_false]
     rw [loop_same (a := a.snaps) (b := b.snaps) (K := if decide (a.exps = b.exps) = true then some true else some false) l1 (by omega) (fun rec i h1 h2 => ?_) (fun rec => ?_)]
     ·by_cases e3 : a.snaps = b.snaps
      ·by_cases e4 : a.exps = b.exps
       ·rw [if_t (decide_eq_true e3), if_t (decide_eq_true e4), decide_eq_true (show sameC a b from ⟨e3, e1, e4, e2⟩)]
       ·rw [if_t (decide_eq_true e3), if_f (decide_eq_false e4), decide_eq_false fun q => e4 q.2.2.1]
      ·rw [if_f (decide_eq_false e3), decide_eq_false fun q => e3 q.1]
     ·simp only [cellarerkeep_Catalog.l4]
      rw [if_t (lt_t h1), ix_lt h1, bd_mk, ix_lt h2, bd_mk, ksnap_eq _ _ (hs2 _ (List.getElem_mem h1)), bd_mk, wr_succ (by omega)]
      exact ite_not rfl
     ·simp only [cellarerkeep_Catalog.l4, cellarerkeep_Catalog.k1]
      rw [if_f (lt_f (Nat.lt_irrefl _))]
      refine loop_same (a := a.exps) (b := b.exps) l2 (by omega) (fun rec i h1 h2 => ?_) (fun rec => ?_)
      ·simp only [cellarerkeep_Catalog.l3]
       rw [if_t (lt_t h1), ix_lt h1, bd_mk, ix_lt h2, bd_mk, and_only (klocs_eq _ _ (he2 _ (List.getElem_mem h1))), bd_mk, wr_succ (by omega)]
       refine ite_not ?_
       generalize a.exps[i] = x
       generalize b.exps[i] = y
       obtain ⟨a1, a2, a3⟩ := x
       obtain ⟨b1, b2, b3⟩ := y
       simp only [Exp.mk.injEq, Bool.decide_and, ne_eq, decide_not]
       cases decide (a1 = b1) <;> cases decide (a2 = b2) <;> cases decide (a3 = b3) <;> rfl
      ·simp only [cellarerkeep_Catalog.l3, cellarerkeep_Catalog.k2]
       rw [if_f (lt_f (Nat.lt_irrefl _))]
    ·rw [decide_eq_false e2, decide_eq_false (show ¬sameC a b from fun q => e2 q.2.2.2)]
     simp
   ·rw [decide_eq_false e1, decide_eq_false (show ¬sameC a b from fun q => e1 q.2.1)]
    simp
  ·rw [if_t (by rw [decide_eq_true (show (a.exps.length : Int) ≠ (b.exps.length : Int) by omega)]; simp), decide_eq_false fun q => l2 (by rw [q.2.2.1])]
 ·rw [if_t (by rw [decide_eq_true (show (a.snaps.length : Int) ≠ (b.snaps.length : Int) by omega)]; simp), decide_eq_false fun q => l1 (by rw [q.1])]
theorem loop_mapL {α A : Type} {F : (Int × List α → Option A) → Int × List α → Option A} (l : List α) (g : α → α) (K : List α → Option A) (hn : l.length < 4611686018427387904)
  (hstep : ∀ rec (i : Nat) (m : List α) (hi : i < l.length) (hm : m.length = l.length), m[i]? = some l[i] → F rec ((i : Int), m) = rec (((i + 1 : Nat) : Int), m.set i (g l[i]))) (hend : ∀ rec m, m.length = l.length → F rec ((l.length : Int), m) = K m) : loop F (0, l) = K (l.map g) := by
 refine loop_eq (σ := List α) (fun i m => ((i : Int), m)) l.length (fun i m => m = (l.take i).map g ++ l.drop i) _ (i0 := 0) (s0 := l) rfl (Nat.zero_le _) (by simp) hn ?_ ?_
 ·intro rec i m hi hI hrec
  have hml : m.length = l.length := by rw [hI]; simp; omega
  have hmi : m[i]? = some l[i] := by
   rw [hI, List.getElem?_append_right (by simp; omega)]
   simp [Nat.min_eq_left (Nat.le_of_lt hi), hi]
  rw [hstep rec i m hi hml hmi]
  refine hrec _ ?_
  rw [hI, List.set_append_right _ _ (by simp; omega), take_snoc' hi, List.map_append, List.append_assoc]
  congr 1
  rw [List.length_map, List.length_take, Nat.min_eq_left (Nat.le_of_lt hi), Nat.sub_self, List.drop_eq_getElem_cons hi]
  rfl
 ·intro rec m hI
  have hml : m.length = l.length := by rw [hI]; simp
  rw [hend rec m hml, hI, List.take_length, List.drop_length, List.append_nil]
theorem clone_of {α : Type} (l : List α) (hl : l.length ≤ 1073741824) : (bd (app (α := α) ([] : List α) l) fun l6 => some l6) = some l := by
 rw [app_ok (by simpa using hl), bd_mk, List.nil_append]
theorem ix_of {α : Type} {m : List α} {i : Nat} {x : α} (h : m[i]? = some x) : ix m (i : Int) = some x := h
theorem twinMan_eq (m : Manifest) (h : smallM m) : catalog_TwinMan m = some m := by
 unfold catalog_TwinMan slices_Clone_api_Part_api_Part
 rw [clone_of _ h.1, bd_mk, loop_mapL m.parts id (fun l => some (Manifest.mk m.name l)) (by have := h.1; omega) ?_ ?_, List.map_id]
 ·intro rec i l hi hm hx
  simp only [catalog_TwinMan.l2]
  rw [if_t (lt_t hi), ix_of hx, bd_mk, cloneI_eq _ (h.2 _ (List.getElem_mem hi)), bd_mk, wr_succ (by have := h.1; omega)]
  rfl
 ·intro rec l hl
  simp only [catalog_TwinMan.l2, catalog_TwinMan.k1]
  rw [if_f (lt_f (Nat.lt_irrefl _))]
theorem twinCat_eq (c : Catalog) (h : smallC c) : catalog_Twin c = some c := by
 obtain ⟨hv, ⟨hc, hc2⟩, ⟨hs, hs2⟩, he, he2⟩ := h
 unfold catalog_Twin slices_Clone_api_Snap_api_Snap slices_Clone_api_Chunk_api_Chunk slices_Clone_api_Exp_api_Exp slices_Clone_api_Vol_api_Vol
 rw [clone_of _ hs, bd_mk, clone_of _ hc, bd_mk, clone_of _ he, bd_mk, clone_of _ hv, bd_mk]
 have k3 : ∀ (sn : List Snap) (ch : List Chunk), catalog_Twin.k2 c c.exps c.vols sn ch = some (Catalog.mk c.seq sn ch c.exps c.vols) := by
  intro sn ch
  unfold catalog_Twin.k2
  rw [loop_mapL c.exps id (fun l => some (Catalog.mk c.seq sn ch l c.vols)) (by omega) ?_ ?_, List.map_id]
  ·intro rec i l hi hm hx
   simp only [catalog_Twin.l4, slices_Clone_api_Loc_api_Loc]
   rw [if_t (lt_t hi), ix_of hx, bd_mk, clone_of _ (he2 _ (List.getElem_mem hi)), bd_mk, wr_succ (by omega)]
   rfl
  ·intro rec l hl
   simp only [catalog_Twin.l4, catalog_Twin.k3]
   rw [if_f (lt_f (Nat.lt_irrefl _))]
 have k2 : ∀ (sn : List Snap), catalog_Twin.k1 c c.chunks c.exps c.vols sn = some (Catalog.mk c.seq sn c.chunks c.exps c.vols) := by
  intro sn
  unfold catalog_Twin.k1
  rw [loop_mapL c.chunks id (fun l => some (Catalog.mk c.seq sn l c.exps c.vols)) (by omega) ?_ ?_, List.map_id]
  ·intro rec i l hi hm hx
   simp only [catalog_Twin.l5, slices_Clone_api_Loc_api_Loc]
   have hk := hc2 _ (List.getElem_mem hi)
   rw [if_t (lt_t hi), ix_of hx, bd_mk, cloneB_eq _ hk.1, bd_mk, clone_of _ hk.2, bd_mk, wr_succ (by omega), List.set_set]
   rfl
  ·intro rec l hl
   simp only [catalog_Twin.l5]
   rw [if_f (lt_f (Nat.lt_irrefl _))]
   exact k3 sn l
 rw [loop_mapL c.snaps id (fun l => some (Catalog.mk c.seq l c.chunks c.exps c.vols)) (by omega) ?_ ?_, List.map_id]
 ·intro rec i l hi hm hx
  simp only [catalog_Twin.l6, slices_Clone_api_Loc_api_Loc]
  have hk := hs2 _ (List.getElem_mem hi)
  rw [if_t (lt_t hi), ix_of hx, bd_mk, twinMan_eq _ hk.1, bd_mk, clone_of _ hk.2, bd_mk, wr_succ (by omega), List.set_set]
  rfl
 ·intro rec l hl
  simp only [catalog_Twin.l6]
  rw [if_f (lt_f (Nat.lt_irrefl _))]
  exact k2 l
theorem catB_small {c : Catalog} (h : catB c = true) : smallC c := by
 unfold catB volsB chunksB snapsB expsB at h
 simp only [Bool.and_eq_true, decide_eq_true_eq, allN_iff, inB_iff] at h
 obtain ⟨⟨⟨⟨_, _, _, hv⟩, hc, hcl⟩, hs, hsl⟩, he, hel⟩ := h
 have hloc : ∀ l, locsB c.vols l = true → l.length ≤ 1073741824 := fun l h => by
  unfold locsB at h
  rw [Bool.and_eq_true, decide_eq_true_eq] at h
  omega
 refine ⟨by omega, ⟨by omega, fun x hx => ?_⟩, ⟨by omega, fun x hx => ?_⟩, by omega, fun x hx => ?_⟩
 ·obtain ⟨i, hi, rfl⟩ := List.getElem_of_mem hx
  have := hc i hi
  unfold chunkOk chunkB at this
  rw [getD_lt hi] at this
  simp only [Bool.and_eq_true] at this
  refine ⟨?_, hloc _ this.1.2⟩
  have h2 := this.2
  split at h2
  ·have := inB_iff.1 h2; omega
  ·simp only [Bool.and_eq_true, decide_eq_true_eq] at h2; omega
 ·obtain ⟨i, hi, rfl⟩ := List.getElem_of_mem hx
  have := hs i hi
  unfold snapOk at this
  rw [getD_lt hi] at this
  simp only [Bool.and_eq_true, decide_eq_true_eq] at this
  have hm := this.1.1.2
  exact ⟨⟨by have := hm.2.1; omega, fun p hp => by have := (partB_num (manB_parts hm p hp)).2.2.2.1; omega⟩, hloc _ this.1.2⟩
 ·obtain ⟨i, hi, rfl⟩ := List.getElem_of_mem hx
  have := he i hi
  unfold expOk at this
  rw [getD_lt hi] at this
  simp only [Bool.and_eq_true, decide_eq_true_eq] at this
  exact hloc _ this.1.2
end Go.Wk.Lf
end
section
namespace Go.Wk.Lf
open Go.V Go.Sort Go.Proofs
theorem readL_none {b : List UInt8} (h : ¬ ∃ m, isMan b m) : readL b = (⟨[], []⟩, 3) := by
 unfold readL; rw [dif_neg h]
end Go.Wk.Lf
end
section
namespace Go.Wk.Lf
open Go.V Go.Sort Go.Proofs
def bareC (vs : List Vol) : Catalog := ⟨0, [], [], [], vs⟩
def junk (f : Found) : Prop := (f.rec_.kind = 1 → f.rec_.data.length < 1 ∨ 64 < f.rec_.data.length) ∧ (f.rec_.kind = 2 → f.rec_.data.length ≤ 1000000000 ∧ ¬∃ m, isMan f.rec_.data m) ∧ (f.rec_.kind = 3 → f.rec_.data.length ≠ 4)
theorem junk_chunk {f : Found} (h : junk f) (hk : f.rec_.kind = 1) (c : Catalog) : rebuild_chunk c f = some c := by
 unfold rebuild_chunk
 rw [if_t (by rcases h.1 hk with q | q; rw [decide_eq_true (by omega)]; rfl; rw [decide_eq_true (show (64 : Int) < (f.rec_.data.length : Int) by omega)]; simp)]
theorem junk_snap {f : Found} (h : junk f) (hk : f.rec_.kind = 2) (c : Catalog) : rebuild_snap c f = some c := by
 unfold rebuild_snap
 obtain ⟨h1, h2⟩ := h.2.1 hk
 rw [read_eq _ h1, readL_none h2, bd_mk]
 rfl
theorem junk_exp {f : Found} (h : junk f) (hk : f.rec_.kind = 3) (c : Catalog) : rebuild_exp c f = some c := by
 unfold rebuild_exp
 have := h.2.2 hk
 rw [if_t (decide_eq_true (by omega))]
theorem bare_small {vs : List Vol} (h : vs.length ≤ 1073741824) : smallC (bareC vs) := ⟨h, ⟨Nat.zero_le _, fun x hx => by cases hx⟩, ⟨Nat.zero_le _, fun x hx => by cases hx⟩, Nat.zero_le _, fun x hx => by cases hx⟩
theorem from_junk (vs : List Vol) (fs : List Found) (hv : vs.length ≤ 1073741824) (hf : fs.length ≤ 1073741824) (hj : ∀ f ∈ fs, junk f) : rebuild_From vs fs = some (if catB (bareC vs) = true then (bareC vs, 0) else (Catalog.mk 0 [] [] [] [], 1)) := by
 unfold rebuild_From slices_Clone_api_Vol_api_Vol
 rw [clone_of _ hv, bd_mk]
 have hend : rebuild_From.k1 [] [] [] 0 vs = some (if catB (bareC vs) = true then (bareC vs, 0) else (Catalog.mk 0 [] [] [] [], 1)) := by
  have e1 : rebuild_snaps (Catalog.mk 0 [] [] [] vs) = some [] := by
   unfold rebuild_snaps
   refine loop_const (S := List Snap × Int) (fun s => s = ([], 0)) (fun _ => 0) rfl (by decide) ?_
   rintro rec s rfl _
   rfl
  have e2 : rebuild_From.k4 0 vs [] [] [] = some (if catB (bareC vs) = true then (bareC vs, 0) else (Catalog.mk 0 [] [] [] [], 1)) := by
   unfold rebuild_From.k4
   rw [check_eq _ hv (Nat.zero_le _) (Nat.zero_le _) (Nat.zero_le _), bd_mk]
   have e : Catalog.mk 0 [] [] [] vs = bareC vs := rfl
   rw [e]
   by_cases h : catB (bareC vs) = true
   ·rw [if_pos h, if_pos h, twinCat_eq _ (bare_small hv)]; rfl
   ·rw [if_neg h, if_neg h]; rfl
  unfold rebuild_From.k1
  rw [e1, bd_mk]
  refine loop_const (S := Int × List Snap) (fun s => s = (0, [])) (fun _ => 0) rfl (by decide) ?_
  rintro rec s rfl _
  simp only [rebuild_From.l7, rebuild_From.k2]
  refine loop_const (S := Int × List Chunk) (fun s => s = (0, [])) (fun _ => 0) rfl (by decide) ?_
  rintro rec s rfl _
  simp only [rebuild_From.l6, rebuild_From.k3]
  refine loop_const (S := Int × List Exp) (fun s => s = (0, [])) (fun _ => 0) rfl (by decide) ?_
  rintro rec s rfl _
  exact e2
 refine loop_eq (σ := Unit) (fun i _ => ((i : Int), ([] : List Exp), ([] : List Chunk), ([] : List Snap), (0 : Int), vs)) fs.length (fun _ _ => True) _ (i0 := 0) (s0 := ()) rfl (Nat.zero_le _) trivial (by omega) ?_ ?_
 ·intro rec i _ hi _ hrec
  simp only [rebuild_From.l8]
  have hjf := hj _ (List.getElem_mem hi)
  rw [if_t (lt_t hi), ix_lt hi, bd_mk]
  have hr := hrec () trivial
  have k9 : rebuild_From.k9 (i : Int) rec [] [] [] 0 vs = some (if catB (bareC vs) = true then (bareC vs, 0) else (Catalog.mk 0 [] [] [] [], 1)) := by
   unfold rebuild_From.k9
   rw [wr_succ (by omega)]; exact hr
  by_cases h1 : fs[i].rec_.kind = 1
  ·rw [if_t (decide_eq_true h1), junk_chunk hjf h1, bd_mk]; exact k9
  ·rw [if_f (decide_eq_false h1)]
   by_cases h2 : fs[i].rec_.kind = 2
   ·rw [if_t (decide_eq_true h2), junk_snap hjf h2, bd_mk]; exact k9
   ·rw [if_f (decide_eq_false h2)]
    by_cases h3 : fs[i].rec_.kind = 3
    ·rw [if_t (decide_eq_true h3), junk_exp hjf h3, bd_mk]; exact k9
    ·rw [if_f (decide_eq_false h3)]; exact k9
 ·intro rec _ _
  simp only [rebuild_From.l8]
  rw [if_f (lt_f (Nat.lt_irrefl _))]
  exact hend
theorem part_bare (vs : List Vol) (h : catB (bareC vs) = true) : rebuild_Part (bareC vs) = some (bareC vs) := by
 have hs := catB_small h
 unfold rebuild_Part
 rw [check_eq _ hs.1 (Nat.zero_le _) (Nat.zero_le _) (Nat.zero_le _), bd_mk, if_pos h]
 rw [if_f (by decide), twinCat_eq _ hs, bd_mk]
 have e1 : slices_DeleteFunc_api_Snap_api_Snap_rebuild_Part_1 [] = some [] := by
  unfold slices_DeleteFunc_api_Snap_api_Snap_rebuild_Part_1
  rw [show slices_IndexFunc_api_Snap_api_Snap_rebuild_Part_1 [] = some (-1) from ?_]
  ·rfl
  ·unfold slices_IndexFunc_api_Snap_api_Snap_rebuild_Part_1
   refine loop_const (S := Int) (fun s => s = 0) (fun _ => 0) rfl (by decide) ?_
   rintro rec s rfl _
   rfl
 have e2 : slices_DeleteFunc_api_Chunk_api_Chunk_rebuild_Part_2 [] = some [] := by
  unfold slices_DeleteFunc_api_Chunk_api_Chunk_rebuild_Part_2
  rw [show slices_IndexFunc_api_Chunk_api_Chunk_rebuild_Part_2 [] = some (-1) from ?_]
  ·rfl
  ·unfold slices_IndexFunc_api_Chunk_api_Chunk_rebuild_Part_2
   refine loop_const (S := Int) (fun s => s = 0) (fun _ => 0) rfl (by decide) ?_
   rintro rec s rfl _
   rfl
 rw [show (bareC vs).snaps = [] from rfl, show (bareC vs).chunks = [] from rfl, e1, bd_mk, e2, bd_mk]
 refine loop_const (S := Int × List Chunk) (fun s => s = (0, [])) (fun _ => 0) rfl (by decide) ?_
 rintro rec s rfl _
 simp only [rebuild_Part.l6, rebuild_Part.k1]
 refine loop_const (S := Int × Int) (fun s => s = (0, 0)) (fun _ => 0) rfl (by decide) ?_
 rintro rec s rfl _
 simp only [rebuild_Part.l5, rebuild_Part.k2]
 refine loop_const (S := Int × Int) (fun s => s = (0, 0)) (fun _ => 0) rfl (by decide) ?_
 rintro rec s rfl _
 rfl
end Go.Wk.Lf
end
section
namespace Go.Wk.Lf
open Go.V Go.Sort Go.Proofs
theorem wakes24 : cellarerlaw24_wakes = some true := by decide +kernel
end Go.Wk.Lf
end
section
namespace Go.Wk.Lf
open Go.V Go.Sort Go.Proofs
theorem and_one (x : Int) : bits .and .i64 x 1 = 0 ∨ bits .and .i64 x 1 = 1 := by
 have h2 : (BitVec.ofInt 64 (1 : Int)).toNat = 1 := by decide
 have h : bits .and .i64 x 1 = (((BitVec.ofInt 64 x).toNat % 2 : Nat) : Int) := by
  show IntKind.i64.wrap ((BitVec.ofInt 64 x &&& BitVec.ofInt 64 (1 : Int)).toNat : Int) = _
  rw [BitVec.toNat_and, h2, Nat.and_one_is_mod]
  exact wr_id (by omega) (by omega)
 rw [h]
 omega
theorem pools_eq (l : List Int) (hl : l.length ≤ 1073741824) : ∃ p : List Int, cellarerlaw19_Pools l = some p ∧ 1 ≤ p.length ∧ p.length ≤ 8 ∧ ∀ x ∈ p, x = 0 ∨ x = 1 := by
 unfold cellarerlaw19_Pools
 refine loop_for (σ := List Int) (fun i m => (m, (i : Int))) (min l.length 8) (fun i m => m.length = i ∧ ∀ x ∈ m, x = 0 ∨ x = 1) (fun o => ∃ p : List Int, o = some p ∧ 1 ≤ p.length ∧ p.length ≤ 8 ∧ ∀ x ∈ p, x = 0 ∨ x = 1) (i0 := 0) (s0 := []) rfl (Nat.zero_le _) ⟨rfl, fun x hx => by cases hx⟩ (by omega) ?_ ?_
 ·intro rec i m hi hI hrec
  simp only [cellarerlaw19_Pools.l3]
  have hil : i < l.length := by omega
  rw [if_t (by rw [lt_t hil, decide_eq_true (show (i : Int) < 8 by omega)]; rfl), ix_lt hil, bd_mk, app_ok (by simp; omega), bd_mk, wr_succ (by omega)]
  refine hrec _ ⟨by simp [hI.1], fun x hx => ?_⟩
  rcases List.mem_append.1 hx with hx | hx
  ·exact hI.2 x hx
  ·obtain rfl := List.mem_singleton.1 hx
   exact and_one _
 ·intro rec m hI
  simp only [cellarerlaw19_Pools.l3]
  have hc : (decide (((min l.length 8 : Nat) : Int) < (l.length : Int)) && decide (((min l.length 8 : Nat) : Int) < 8)) = false := by
   by_cases h : l.length ≤ 8
   ·rw [decide_eq_false (by omega)]; rfl
   ·rw [decide_eq_false (show ¬((min l.length 8 : Nat) : Int) < 8 by omega), Bool.and_false]
  rw [if_f hc]
  unfold cellarerlaw19_Pools.k1 cellarerlaw19_Pools.k2
  by_cases h0 : m.length = 0
  ·rw [if_t (decide_eq_true (by omega))]
   exact ⟨[0], rfl, by simp, by simp, fun x hx => by simp at hx; exact .inl hx⟩
  ·rw [if_f (decide_eq_false (by omega))]
   exact ⟨m, rfl, by omega, by omega, hI.2⟩
def volsOf (p : List Int) : List Vol := p.map fun x => Vol.mk x 0 1 0
theorem new_eq (p : List Int) (h1 : 1 ≤ p.length) (h8 : p.length ≤ 8) (hp : ∀ x ∈ p, x = 0 ∨ x = 1) : catalog_New p = some (bareC (volsOf p), 0) := by
 unfold catalog_New
 rw [in_eq, bd_mk, if_f (by rw [inB_iff.2 ⟨by omega, by omega⟩]; rfl)]
 refine loop_eq (σ := List Vol) (fun i m => ((i : Int), m)) p.length (fun i m => m = volsOf (p.take i)) _ (i0 := 0) (s0 := []) rfl (Nat.zero_le _) rfl (by omega) ?_ ?_
 ·intro rec i m hi hI hrec
  simp only [catalog_New.l2]
  have hx := hp _ (List.getElem_mem hi)
  have hml : m.length ≤ 8 := by rw [hI]; simp [volsOf]; omega
  rw [if_t (lt_t hi), ix_lt hi, bd_mk, in_eq, bd_mk, if_f (by rw [inB_iff.2 ⟨by omega, by omega⟩]; rfl), app_ok (by simp; omega), bd_mk, wr_succ (by omega)]
  refine hrec _ ?_
  rw [hI, take_snoc' hi, volsOf, volsOf, List.map_append]; rfl
 ·intro rec m hI
  simp only [catalog_New.l2, catalog_New.k1]
  rw [if_f (lt_f (Nat.lt_irrefl _)), hI, List.take_length]; rfl
theorem new_right (p : List Int) (h1 : 1 ≤ p.length) (h8 : p.length ≤ 8) (hp : ∀ x ∈ p, x = 0 ∨ x = 1) : catB (bareC (volsOf p)) = true := by
 have hv : volsB (volsOf p) = true := by
  unfold volsB
  rw [Bool.and_eq_true, List.all_eq_true]
  refine ⟨fun v hv => ?_, inB_iff.2 (by simp [volsOf]; omega)⟩
  obtain ⟨x, hx, rfl⟩ := List.mem_map.1 hv
  rcases hp x hx with rfl | rfl <;> decide
 unfold catB
 rw [show (bareC (volsOf p)).vols = volsOf p from rfl, hv]
 rfl
theorem man255 (b : List UInt8) : ¬∃ m, isMan ([(255 : UInt8)] ++ b) m := by
 rintro ⟨m, h1, h2, h3⟩
 have hn := nameB_len h1.1
 have : (255 : UInt8) = toB8 (m.name.length : Int) := by
  have := congrArg (fun l => l.head?) h3
  simpa [manBytes] using this
 have h4 := congrArg UInt8.toNat this
 rw [toB8_toNat (by omega)] at h4
 have : (255 : UInt8).toNat = 255 := rfl
 omega
theorem only_t' {α : Type} {b : Bool} {o : Option α} {z : α} (h : b = true) : only b o z = o := if_pos h
theorem empty_true (x0 : List Int) (x1 : List (List UInt8)) : cellarerlaw24_RebuildEmpty x0 x1 = some true := by
 unfold cellarerlaw24_RebuildEmpty
 by_cases hb : x0.length ≤ 30 ∧ x1.length ≤ 20
 ·rw [if_f (by rw [decide_eq_false (by omega), decide_eq_false (by omega)]; rfl)]
  obtain ⟨p, e1, p1, p8, pp⟩ := pools_eq x0 (by omega)
  have hr := new_right p p1 p8 pp
  have hvl : (volsOf p).length ≤ 1073741824 := by simp [volsOf]; omega
  have hsm := bare_small hvl
  rw [e1, bd_mk, new_eq p p1 p8 pp, bd_mk]
  have hf : ∀ fs : List Found, fs.length ≤ 1073741824 → (∀ f ∈ fs, junk f) → rebuild_From (volsOf p) fs = some (bareC (volsOf p), 0) := fun fs h1 h2 => by
   rw [from_junk _ _ hvl h1 h2, if_pos hr]
  have hk : cellarerkeep_Catalog (bareC (volsOf p)) (bareC (volsOf p)) = some true := by
   rw [kcat_eq _ _ hsm, decide_eq_true (sameC_refl _)]
  have hbv : (bareC (volsOf p)).vols = volsOf p := rfl
  simp only [hbv]
  rw [hf [] (Nat.zero_le _) (fun f hf => by cases hf), bd_mk]
  simp only [show (bareC (volsOf p)).seq = 0 from rfl, ne_eq, not_true_eq_false, decide_false, Bool.or_self, Bool.not_false, only_t', hk, bd_mk, Bool.not_true, part_bare _ hr, Bool.false_eq_true, if_false]
  have hlen : ∀ x ∈ x1, True := fun _ _ => trivial
  refine loop_eq (σ := List Found) (fun i m => (m, (i : Int))) x1.length (fun i m => m.length ≤ 6 * i ∧ ∀ f ∈ m, junk f) _ (i0 := 0) (s0 := []) rfl (Nat.zero_le _) ⟨Nat.zero_le _, fun f hf => by cases hf⟩ (by omega) ?_ ?_
  ·intro rec i m hi hI hrec
   simp only [cellarerlaw24_RebuildEmpty.l2]
   rw [if_t (lt_t hi), ix_lt hi, bd_mk]
   by_cases h3 : x1[i].length ≤ 300
   ·rw [if_f (decide_eq_false (by omega)), rep_ok (by omega) (by omega), bd_mk, bd_mk, app_ok (by simp; omega), bd_mk, bd_mk, app_ok (by simp; omega), bd_mk, app_ok (by simp; omega), bd_mk, app_ok (by simp; omega), bd_mk, wr_succ (by omega)]
    refine hrec _ ⟨by simp; omega, fun f hf => ?_⟩
    rcases List.mem_append.1 hf with hf | hf
    ·exact hI.2 f hf
    ·simp only [List.mem_cons, List.not_mem_nil, or_false] at hf
     have no : ∀ {a b : Int}, decide (a = b) = false → ∀ {q : Prop}, a = b → q := fun h q e => absurd e (of_decide_eq_false h)
     rcases hf with rfl | rfl | rfl | rfl | rfl | rfl
     ·exact ⟨fun _ => .inr (by simp), fun e => no rfl e, fun e => no rfl e⟩
     ·exact ⟨fun e => no rfl e, fun e => no rfl e, fun _ => by simp⟩
     ·exact ⟨fun e => no rfl e, fun _ => ⟨by simp; omega, man255 _⟩, fun e => no rfl e⟩
     ·exact ⟨fun e => no rfl e, fun e => no rfl e, fun e => no rfl e⟩
     ·exact ⟨fun e => no rfl e, fun e => no rfl e, fun e => no rfl e⟩
     ·exact ⟨fun _ => .inl (by simp), fun e => no rfl e, fun e => no rfl e⟩
   ·rw [if_t (decide_eq_true (by omega))]
  ·intro rec m hI
   simp only [cellarerlaw24_RebuildEmpty.l2, cellarerlaw24_RebuildEmpty.k1]
   rw [if_f (lt_f (Nat.lt_irrefl _))]
   simp only [hbv]
   rw [hf m (by omega) hI.2, bd_mk]
   simp only [show (bareC (volsOf p)).seq = 0 from rfl, decide_true, only_t', hk, bd_mk, Bool.and_self, wakes24]
 ·rw [if_t (by
   by_cases h : x0.length ≤ 30
   ·rw [decide_eq_true (show (20 : Int) < (x1.length : Int) by omega)]; simp
   ·rw [decide_eq_true (show (30 : Int) < (x0.length : Int) by omega)]; rfl)]
end Go.Wk.Lf
end
section
namespace Go.Wk.Lf
open Go.V Go.Proofs
end Go.Wk.Lf
namespace Go.Wk.Lf
open Go.V Go.RowKit Go.ChangeShapes Go.WideShapes Go.Deep
end Go.Wk.Lf
end
section
namespace Go.Wk.Lf
open Go.V Go.Proofs
end Go.Wk.Lf
namespace Go.Proofs
open Go.Shelf
def Tryz.sortLoc_ren : Go.Shelf.Ren := ⟨fun | 6 => 99 | 15 => 151 | 14 => 150 | 28 => 179 | 29 => 180 | 20 => 171 | 21 => 172 | 22 => 173 | 23 => 174 | 24 => 175 | 25 => 176 | 26 => 177 | 27 => 178 | 46 => 186 | 47 => 187 | 48 => 188 | 49 => 189 | 50 => 190 | 57 => 199 | n => n, fun | 22 => 44 | 24 => 51 | 25 => 162 | 3 => 3 | 39 => 26 | 0 => 0 | 53 => 169 | 55 => 194 | 4 => 4 | 46 => 229 | 45 => 228 | 50 => 146 | 5 => 5 | 9 => 9 | 66 => 240 | 70 => 244 | 76 => 251 | 77 => 252 | n => n, fun | n => n⟩
theorem Tryz.sortLoc : Go.Proofs.SlLaysF0.n6 Tryz.prog Tryz.sortLoc_ren := {
  mixed := by kernel_rfl
  f6 := ⟨Tryz.f99.name, by decide, Tryz.func99.trans (congrArg some (by kernel_rfl))⟩
  f14 := ⟨Tryz.f150.name, by decide, Tryz.func150.trans (congrArg some (by kernel_rfl))⟩
  f15 := Tryz.func151.trans (congrArg some (by kernel_rfl))
  f20 := ⟨Tryz.f171.name, by decide, Tryz.func171.trans (congrArg some (by kernel_rfl))⟩
  f21 := ⟨Tryz.f172.name, by decide, Tryz.func172.trans (congrArg some (by kernel_rfl))⟩
  f22 := ⟨Tryz.f173.name, by decide, Tryz.func173.trans (congrArg some (by kernel_rfl))⟩
  f23 := ⟨Tryz.f174.name, by decide, Tryz.func174.trans (congrArg some (by kernel_rfl))⟩
  f24 := ⟨Tryz.f175.name, by decide, Tryz.func175.trans (congrArg some (by kernel_rfl))⟩
  f25 := ⟨Tryz.f176.name, by decide, Tryz.func176.trans (congrArg some (by kernel_rfl))⟩
  f26 := ⟨Tryz.f177.name, by decide, Tryz.func177.trans (congrArg some (by kernel_rfl))⟩
  f27 := ⟨Tryz.f178.name, by decide, Tryz.func178.trans (congrArg some (by kernel_rfl))⟩
  f28 := Tryz.func179.trans (congrArg some (by kernel_rfl))
  f29 := Tryz.func180.trans (congrArg some (by kernel_rfl))
  f46 := ⟨Tryz.f186.name, by decide, Tryz.func186.trans (congrArg some (by kernel_rfl))⟩
  f47 := Tryz.func187.trans (congrArg some (by kernel_rfl))
  f48 := Tryz.func188.trans (congrArg some (by kernel_rfl))
  f49 := ⟨Tryz.f189.name, by decide, Tryz.func189.trans (congrArg some (by kernel_rfl))⟩
  f50 := ⟨Tryz.f190.name, by decide, Tryz.func190.trans (congrArg some (by kernel_rfl))⟩
  f57 := ⟨Tryz.f199.name, by decide, Tryz.func199.trans (congrArg some (by kernel_rfl))⟩
  t0 := Tryz.underlying0
  a0 := Tryz.isAgg0
  z0 := Tryz.sizeOf0
  v0 := Tryz.zeroValue0
  t3 := Tryz.underlying3
  a3 := Tryz.isAgg3
  z3 := Tryz.sizeOf3
  v3 := Tryz.zeroValue3
  t4 := Tryz.underlying4
  a4 := Tryz.isAgg4
  z4 := Tryz.sizeOf4
  v4 := Tryz.zeroValue4
  t5 := Tryz.underlying5
  a5 := Tryz.isAgg5
  z5 := Tryz.sizeOf5
  v5 := Tryz.zeroValue5
  t9 := Tryz.underlying9
  a9 := Tryz.isAgg9
  z9 := Tryz.sizeOf9
  v9 := Tryz.zeroValue9
  t22 := Tryz.underlying44
  a22 := Tryz.isAgg44
  z22 := Tryz.sizeOf44
  v22 := Tryz.zeroValue44
  t25 := Tryz.underlying162
  a25 := Tryz.isAgg162
  z25 := Tryz.sizeOf162
  v25 := Tryz.zeroValue162
  t39 := Tryz.underlying26
  a39 := Tryz.isAgg26
  z39 := Tryz.sizeOf26
  v39 := Tryz.zeroValue26
  t45 := Tryz.underlying228
  a45 := Tryz.isAgg228
  z45 := Tryz.sizeOf228
  v45 := Tryz.zeroValue228
  t46 := Tryz.underlying229
  a46 := Tryz.isAgg229
  z46 := Tryz.sizeOf229
  v46 := Tryz.zeroValue229
  t50 := Tryz.underlying146
  a50 := Tryz.isAgg146
  z50 := Tryz.sizeOf146
  v50 := Tryz.zeroValue146
  t53 := Tryz.underlying169
  a53 := Tryz.isAgg169
  z53 := Tryz.sizeOf169
  v53 := Tryz.zeroValue169
  t55 := Tryz.underlying194
  a55 := Tryz.isAgg194
  z55 := Tryz.sizeOf194
  v55 := Tryz.zeroValue194
  t66 := Tryz.underlying240
  a66 := Tryz.isAgg240
  z66 := Tryz.sizeOf240
  v66 := Tryz.zeroValue240
  t70 := Tryz.underlying244
  a70 := Tryz.isAgg244
  z70 := Tryz.sizeOf244
  v70 := Tryz.zeroValue244
  t76 := Tryz.underlying251
  a76 := Tryz.isAgg251
  z76 := Tryz.sizeOf251
  v76 := Tryz.zeroValue251
  t77 := Tryz.underlying252
  a77 := Tryz.isAgg252
  z77 := Tryz.sizeOf252
  v77 := Tryz.zeroValue252 }
def Tryz.sortIds_ren : Go.Shelf.Ren := ⟨fun | 6 => 168 | 15 => 151 | 14 => 185 | 28 => 179 | 29 => 180 | 20 => 191 | 21 => 192 | 22 => 193 | 23 => 194 | 24 => 195 | 25 => 196 | 26 => 197 | 27 => 198 | 46 => 200 | 47 => 187 | 48 => 188 | 49 => 201 | 50 => 202 | 57 => 203 | n => n, fun | 22 => 118 | 24 => 58 | 25 => 187 | 3 => 3 | 39 => 26 | 0 => 0 | 53 => 169 | 55 => 194 | 4 => 4 | 46 => 229 | 45 => 228 | 50 => 146 | 5 => 5 | 9 => 9 | 66 => 240 | 70 => 244 | 76 => 251 | 77 => 252 | n => n, fun | n => n⟩
theorem Tryz.sortIds : Go.Proofs.SlLaysF0.n6 Tryz.prog Tryz.sortIds_ren := {
  mixed := by kernel_rfl
  f6 := ⟨Tryz.f168.name, by decide, Tryz.func168.trans (congrArg some (by kernel_rfl))⟩
  f14 := ⟨Tryz.f185.name, by decide, Tryz.func185.trans (congrArg some (by kernel_rfl))⟩
  f15 := Tryz.func151.trans (congrArg some (by kernel_rfl))
  f20 := ⟨Tryz.f191.name, by decide, Tryz.func191.trans (congrArg some (by kernel_rfl))⟩
  f21 := ⟨Tryz.f192.name, by decide, Tryz.func192.trans (congrArg some (by kernel_rfl))⟩
  f22 := ⟨Tryz.f193.name, by decide, Tryz.func193.trans (congrArg some (by kernel_rfl))⟩
  f23 := ⟨Tryz.f194.name, by decide, Tryz.func194.trans (congrArg some (by kernel_rfl))⟩
  f24 := ⟨Tryz.f195.name, by decide, Tryz.func195.trans (congrArg some (by kernel_rfl))⟩
  f25 := ⟨Tryz.f196.name, by decide, Tryz.func196.trans (congrArg some (by kernel_rfl))⟩
  f26 := ⟨Tryz.f197.name, by decide, Tryz.func197.trans (congrArg some (by kernel_rfl))⟩
  f27 := ⟨Tryz.f198.name, by decide, Tryz.func198.trans (congrArg some (by kernel_rfl))⟩
  f28 := Tryz.func179.trans (congrArg some (by kernel_rfl))
  f29 := Tryz.func180.trans (congrArg some (by kernel_rfl))
  f46 := ⟨Tryz.f200.name, by decide, Tryz.func200.trans (congrArg some (by kernel_rfl))⟩
  f47 := Tryz.func187.trans (congrArg some (by kernel_rfl))
  f48 := Tryz.func188.trans (congrArg some (by kernel_rfl))
  f49 := ⟨Tryz.f201.name, by decide, Tryz.func201.trans (congrArg some (by kernel_rfl))⟩
  f50 := ⟨Tryz.f202.name, by decide, Tryz.func202.trans (congrArg some (by kernel_rfl))⟩
  f57 := ⟨Tryz.f203.name, by decide, Tryz.func203.trans (congrArg some (by kernel_rfl))⟩
  t0 := Tryz.underlying0
  a0 := Tryz.isAgg0
  z0 := Tryz.sizeOf0
  v0 := Tryz.zeroValue0
  t3 := Tryz.underlying3
  a3 := Tryz.isAgg3
  z3 := Tryz.sizeOf3
  v3 := Tryz.zeroValue3
  t4 := Tryz.underlying4
  a4 := Tryz.isAgg4
  z4 := Tryz.sizeOf4
  v4 := Tryz.zeroValue4
  t5 := Tryz.underlying5
  a5 := Tryz.isAgg5
  z5 := Tryz.sizeOf5
  v5 := Tryz.zeroValue5
  t9 := Tryz.underlying9
  a9 := Tryz.isAgg9
  z9 := Tryz.sizeOf9
  v9 := Tryz.zeroValue9
  t22 := Tryz.underlying118
  a22 := Tryz.isAgg118
  z22 := Tryz.sizeOf118
  v22 := Tryz.zeroValue118
  t25 := Tryz.underlying187
  a25 := Tryz.isAgg187
  z25 := Tryz.sizeOf187
  v25 := Tryz.zeroValue187
  t39 := Tryz.underlying26
  a39 := Tryz.isAgg26
  z39 := Tryz.sizeOf26
  v39 := Tryz.zeroValue26
  t45 := Tryz.underlying228
  a45 := Tryz.isAgg228
  z45 := Tryz.sizeOf228
  v45 := Tryz.zeroValue228
  t46 := Tryz.underlying229
  a46 := Tryz.isAgg229
  z46 := Tryz.sizeOf229
  v46 := Tryz.zeroValue229
  t50 := Tryz.underlying146
  a50 := Tryz.isAgg146
  z50 := Tryz.sizeOf146
  v50 := Tryz.zeroValue146
  t53 := Tryz.underlying169
  a53 := Tryz.isAgg169
  z53 := Tryz.sizeOf169
  v53 := Tryz.zeroValue169
  t55 := Tryz.underlying194
  a55 := Tryz.isAgg194
  z55 := Tryz.sizeOf194
  v55 := Tryz.zeroValue194
  t66 := Tryz.underlying240
  a66 := Tryz.isAgg240
  z66 := Tryz.sizeOf240
  v66 := Tryz.zeroValue240
  t70 := Tryz.underlying244
  a70 := Tryz.isAgg244
  z70 := Tryz.sizeOf244
  v70 := Tryz.zeroValue244
  t76 := Tryz.underlying251
  a76 := Tryz.isAgg251
  z76 := Tryz.sizeOf251
  v76 := Tryz.zeroValue251
  t77 := Tryz.underlying252
  a77 := Tryz.isAgg252
  z77 := Tryz.sizeOf252
  v77 := Tryz.zeroValue252 }
end Go.Proofs
namespace Go.Wk.Lf
open Go.V Go.Proofs
theorem kk_ok : KOk Go.Proofs.Tryz.prog KK :=
  Tb.or (KSort_ok (ff := Go.Proofs.Tryz.f99) KNone_ok Go.Proofs.Tryz.sortLoc rfl Go.Proofs.Tryz.isAgg51 Go.Proofs.Tryz.sizeOf51 Go.Proofs.Tryz.func99 rfl (by decide)) (Tb.or (KSort_ok (ff := Go.Proofs.Tryz.f168) KExt_ok Go.Proofs.Tryz.sortIds rfl Go.Proofs.Tryz.isAgg58 Go.Proofs.Tryz.sizeOf58 Go.Proofs.Tryz.func168 rfl (by decide)) (Tb.or KExt_ok (Tb.or KLap_ok (Tb.or (KClose_ok KLap_ok) (Tb.or (KClose_ok KLap_ok) (KClose_ok KLap_ok))))))
end Go.Wk.Lf
end
