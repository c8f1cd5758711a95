import Derived.Test.YtoanecpanckkeaaLfS
namespace Go.Wk.Lf
open Go.Proofs Go.RowKit
set_option linter.unusedVariables false
set_option linter.unusedSimpArgs false
noncomputable section

def slices_Compact_32_byte_32_byte.k1 (x0 : List (List UInt8)) : Option (List (List UInt8)) :=
  some x0


def slices_Compact_32_byte_32_byte.k3 (i4 : Int) (rec5 : Int → Option (List (List UInt8))) : Option (List (List UInt8)) :=
  rec5 (wr (i4 + 1))


def slices_Compact_32_byte_32_byte.k4 (i28 : Int) (l29 : List (List UInt8)) : Option (List (List UInt8)) :=
  bd (cut (α := (List UInt8)) l29 i28 (l29.length : Int)) fun l30 =>
  bd (clr l29 i28.toNat ((l29.length : Int).toNat - i28.toNat) (List.replicate 32 0)) fun l32 =>
  bd (cut (α := (List UInt8)) l32 0 i28) fun l34 =>
  some l34


def slices_Compact_32_byte_32_byte.k6 (i39 : Int) (rec41 : (Int × Int × (List (List UInt8))) → Option (List (List UInt8))) (i44 : Int) (l45 : List (List UInt8)) : Option (List (List UInt8)) :=
  rec41 (i44, wr (i39 + 1), l45)


def slices_Compact_32_byte_32_byte.l5 (x0 : List (List UInt8)) (i4 : Int) (rec41 : (Int × Int × (List (List UInt8))) → Option (List (List UInt8))) : (Int × Int × (List (List UInt8))) → Option (List (List UInt8))
  | (i38, i39, l40) =>
    if decide (i39 < (((x0.length : Int).toNat - i4.toNat : Nat) : Int)) then
      bd (ixp l40 i4.toNat ((x0.length : Int).toNat - i4.toNat) i39) fun x46 =>
      bd (ixp l40 i4.toNat ((x0.length : Int).toNat - i4.toNat) (wr (i39 - 1))) fun x48 =>
      if (!decide (x46 = x48)) then
        bd (ixp l40 i4.toNat ((x0.length : Int).toNat - i4.toNat) i39) fun x63 =>
        bd (ix l40 i38) fun x65 =>
        slices_Compact_32_byte_32_byte.k6 i39 rec41 (wr (i38 + 1)) (l40.set i38.toNat x63)
      else
        slices_Compact_32_byte_32_byte.k6 i39 rec41 i38 l40
    else
      slices_Compact_32_byte_32_byte.k4 i38 l40


def slices_Compact_32_byte_32_byte.l2 (x0 : List (List UInt8)) (rec5 : Int → Option (List (List UInt8))) : Int → Option (List (List UInt8))
  | i4 =>
    if decide (i4 < (x0.length : Int)) then
      bd (ix x0 i4) fun x8 =>
      bd (ix x0 (wr (i4 - 1))) fun x10 =>
      if decide (x8 = x10) then
        bd (cut (α := (List UInt8)) x0 i4 (x0.length : Int)) fun l25 =>
        loop (slices_Compact_32_byte_32_byte.l5 x0 i4) (i4, 1, x0)
      else
        slices_Compact_32_byte_32_byte.k3 i4 rec5
    else
      slices_Compact_32_byte_32_byte.k1 x0

def slices_Compact_32_byte_32_byte (x0 : List (List UInt8)) : Option (List (List UInt8)) :=
  if decide ((x0.length : Int) < 2) then
    some x0
  else
    loop (slices_Compact_32_byte_32_byte.l2 x0) 1

theorem slices_Compact_32_byte_32_byte_ok {F : Frz} {w : World} {x0 : List (List UInt8)} {r : (List (List UInt8))} {v0 : Value} (hS : St v0.ownBlock.toList w F F [.row tId 57 v0 x0] w) (H : slices_Compact_32_byte_32_byte x0 = some r) : Ret Try.prog 78 #[v0] w fun v w' => ∃ (F' : Frz) (q0 : Value), v = q0 ∧ St v0.ownBlock.toList w F F' [.row tId 57 q0 (r)] w' := by
 refine Ret_of (args := [v0]) Try.func78 rfl rfl ?_;change C _ _ _ _ [(0, v0)] _;dsimp only [slices_Compact_32_byte_32_byte] at H;refine C_seq ?_;refine C_region ?_;refine W_assign rfl rfl ?_;refine W_nil ?_;refine N_code ?_;refine C_seq ?_;refine C_seq ?_;refine C_region ?_;refine W_move rfl rfl ?_;refine W_lenv rfl Try.underlying49 rfl (hS.rowLn (k := 0) rfl) ?_;refine W_lss rfl rfl rfl ?_;refine W_nil ?_;refine N_code ?_;refine C_cond rfl (fun hc1 => ?_) (fun hc1 => ?_)
 ·rw [if_t hc1] at H;refine C_seq ?_;refine C_region ?_;refine W_move rfl rfl ?_;refine W_assign rfl rfl ?_;refine W_nil ?_;refine N_code ?_;obtain rfl := Option.some.inj H;refine C_ret rfl rfl ?_;exact ⟨F, v0, rfl, hS⟩
 ·rw [if_f hc1] at H;refine C_skip ?_;refine N_code ?_;refine C_seq_join (fun E wq => slices_Compact_32_byte_32_byte.k1 x0 = some r ∧ ∃ (F2 : Frz), E = [(0, v0)] ∧ F.le F2 ∧ St v0.ownBlock.toList w F F2 [.row tId 57 v0 x0] wq) ?_ ?_
  ·refine C_seq ?_;refine C_region ?_;refine W_assign rfl rfl ?_;refine W_nil ?_;refine N_code ?_;refine C_block ?_;refine C_loopM (fun (s : Int) E wq => ∃ (F3 : Frz), E = [(0, v0), (3, .int .i64 s)] ∧ F.le F3 ∧ St v0.ownBlock.toList w F F3 [.row tId 57 v0 x0] wq) H ?_ ?_
   ·exact ⟨_, ⟨F, rfl, (Frz.le.refl _), hS⟩, ⟨rfl, rfl, trivial⟩⟩
   ·rintro rec5 i4 E w3 hI H;(try dsimp only at hI);obtain ⟨F3, rfl, le3, hS3⟩ := hI;dsimp only [slices_Compact_32_byte_32_byte.l2] at H;refine C_seq ?_;refine C_seq ?_;refine C_region ?_;refine W_move rfl rfl ?_;refine W_move rfl rfl ?_;refine W_lenv rfl Try.underlying49 rfl (hS3.rowLn (k := 0) rfl) ?_;refine W_lss rfl rfl rfl ?_;refine W_nil ?_;refine N_code ?_;refine C_cond rfl (fun hc6 => ?_) (fun hc6 => ?_)
    ·rw [if_t hc6] at H;refine C_skip ?_;refine N_code ?_;refine C_seq_join (fun E wq => slices_Compact_32_byte_32_byte.k3 i4 rec5 = some r ∧ ∃ (F7 : Frz), E = [(0, v0), (3, .int .i64 i4)] ∧ F3.le F7 ∧ St v0.ownBlock.toList w F F7 [.row tId 57 v0 x0] wq) ?_ ?_
     ·refine C_block ?_;refine C_seq ?_;obtain ⟨x8, hx8, H⟩ := bd_some H;obtain ⟨x10, hx10, H⟩ := bd_some H;obtain ⟨hp12, hy12⟩ := ix_some hx8;obtain ⟨cs12, hr12, he12⟩ := hS3.rowAt (k := 0) rfl hy12;obtain ⟨rfl, hle9⟩ := hr12;replace he12 : El _ _ 32 _ _ := he12;obtain ⟨hp13, hy13⟩ := ix_some hx10;obtain ⟨cs13, hr13, he13⟩ := hS3.rowAt (k := 0) rfl hy13;obtain ⟨rfl, hle11⟩ := hr13;replace he13 : El _ _ 32 _ _ := he13
      apply C_draw 9 [[], [], [0, 1], [2], [], [], [5], [4, 6], [7]] [.val (v0), .val (.int .i64 i4), .val (elp v0 (i4.toNat * 32)), .val (.agg (idCells x8).toArray), .val (v0), .val (.int .i64 i4), .val (.int .i64 (wr (i4 - 1))), .val (elp v0 ((wr (i4 - 1)).toNat * 32)), .val (.agg (idCells x10).toArray)] Ty.mixed rfl rfl (by kernel_rfl) (by kernel_rfl) rfl
      ·refine ⟨?_, ?_, ?_, ?_, ?_, ?_, ?_, ?_, ?_, trivial⟩
       ·intro _ _ _ _;refine W_move rfl rfl ?_;exact Zs rfl rfl
       ·intro _ _ _ _;refine W_move rfl rfl ?_;exact Zs rfl rfl
       ·intro w16 vq16 hB16 hH16;have hS16 := hS3.below hB16;refine W_ix rfl Try.underlying49 Ty.cells57 Ty.info57 rfl rfl (he12.below hB16) hp12 rfl ?_;exact Zs rfl rfl
       ·intro w17 vq17 hB17 hH17;have hS17 := hS3.below hB17;refine W_ldg 0 ((idCells x8)) rfl Ty.agg57 Ty.size57 rfl (he12.below hB17) (by omega) (fun q u h => sub_at (post := []) rfl h) ?_;exact Zs rfl rfl
       ·intro _ _ _ _;refine W_move rfl rfl ?_;exact Zs rfl rfl
       ·intro _ _ _ _;refine W_move rfl rfl ?_;exact Zs rfl rfl
       ·intro _ _ _ _;refine W_subi rfl rfl rfl rfl ?_;exact Zs rfl rfl
       ·intro w21 vq21 hB21 hH21;have hS21 := hS3.below hB21;refine W_ix rfl Try.underlying49 Ty.cells57 Ty.info57 rfl rfl (he13.below hB21) hp13 rfl ?_;exact Zs rfl rfl
       ·intro w22 vq22 hB22 hH22;have hS22 := hS3.below hB22;refine W_ldg 0 ((idCells x10)) rfl Ty.agg57 Ty.size57 rfl (he13.below hB22) (by omega) (fun q u h => sub_at (post := []) rfl h) ?_;exact Zs rfl rfl
      intro w23 vq23 hB23 hH23;have hS23 := hS3.below hB23;refine W_eqlI rfl Try.underlying57 Try.underlying5 Ty.cells5 Ty.info5 (by kernel_rfl) rfl rfl hle9 hle11 ?_;refine W_nil ?_;refine N_code ?_;refine C_cond rfl (fun hc24 => ?_) (fun hc24 => ?_)
      ·rw [if_t hc24] at H;refine C_seq ?_;obtain ⟨l25, hl25, H⟩ := bd_some H;refine C_region ?_;refine W_move rfl rfl ?_;refine W_move rfl rfl ?_;refine W_cutR 0 i4 (x0.length : Int) rfl Try.underlying49 Ty.cells57 Ty.info57 rfl ⟨_, rfl⟩ rfl hS23 rfl hl25 ?_;intro q26 hv26 hw26;refine W_assign rfl rfl ?_;refine W_nil ?_;refine N_code ?_;refine C_seq_join (fun E wq => ∃ i28 : Int, ∃ l29 : List (List UInt8), slices_Compact_32_byte_32_byte.k4 i28 l29 = some r ∧ ∃ (F27 : Frz), E = [(0, v0), (3, .int .i64 i28)] ∧ F3.le F27 ∧ St v0.ownBlock.toList w F F27 [.row tId 57 v0 l29] wq) ?_ ?_
       ·refine C_seq ?_;refine C_region ?_;refine W_assign rfl rfl ?_;refine W_nil ?_;refine N_code ?_;refine C_block ?_;refine C_loopM (fun (s : Int × Int × (List (List UInt8))) E wq => ∃ (F37 : Frz), E = [(0, v0), (3, .int .i64 s.1), (4, q26), (5, .int .i64 s.2.1)] ∧ F3.le F37 ∧ St v0.ownBlock.toList w F F37 [.row tId 57 v0 s.2.2] wq) H ?_ ?_
        ·exact ⟨_, ⟨F3, rfl, (Frz.le.refl _), hS23⟩, ⟨rfl, rfl, rfl, rfl, trivial⟩⟩
        ·rintro rec41 ⟨i38, i39, l40⟩ E w37 hI H;(try dsimp only at hI);obtain ⟨F37, rfl, le37, hS37⟩ := hI;dsimp only [slices_Compact_32_byte_32_byte.l5] at H;refine C_seq ?_;refine C_seq ?_;refine C_region ?_;refine W_move rfl rfl ?_;refine W_move rfl rfl ?_;refine W_lenv rfl Try.underlying49 rfl hw26.ln ?_;refine W_lss rfl rfl rfl ?_;refine W_nil ?_;refine N_code ?_;refine C_cond rfl (fun hc42 => ?_) (fun hc42 => ?_)
         ·rw [if_t hc42] at H;refine C_skip ?_;refine N_code ?_;refine C_seq_join (fun E wq => ∃ i44 : Int, ∃ l45 : List (List UInt8), slices_Compact_32_byte_32_byte.k6 i39 rec41 i44 l45 = some r ∧ ∃ (F43 : Frz), E = [(0, v0), (3, .int .i64 i44), (4, q26), (5, .int .i64 i39)] ∧ F37.le F43 ∧ St v0.ownBlock.toList w F F43 [.row tId 57 v0 l45] wq) ?_ ?_
          ·refine C_block ?_;refine C_seq ?_;obtain ⟨x46, hx46, H⟩ := bd_some H;obtain ⟨x48, hx48, H⟩ := bd_some H;obtain ⟨hp50, hz50, hy50⟩ := ixp_some hx46;obtain ⟨cs50, hr50, he50⟩ := hS37.rowAt (k := 0) rfl hy50;obtain ⟨rfl, hle47⟩ := hr50;replace he50 := he50.piece hw26 hz50;replace he50 : El _ _ 32 _ _ := he50;obtain ⟨hp51, hz51, hy51⟩ := ixp_some hx48;obtain ⟨cs51, hr51, he51⟩ := hS37.rowAt (k := 0) rfl hy51;obtain ⟨rfl, hle49⟩ := hr51;replace he51 := he51.piece hw26 hz51;replace he51 : El _ _ 32 _ _ := he51
           apply C_draw 9 [[], [], [0, 1], [2], [], [], [5], [4, 6], [7]] [.val (q26), .val (.int .i64 i39), .val (elp q26 (i39.toNat * 32)), .val (.agg (idCells x46).toArray), .val (q26), .val (.int .i64 i39), .val (.int .i64 (wr (i39 - 1))), .val (elp q26 ((wr (i39 - 1)).toNat * 32)), .val (.agg (idCells x48).toArray)] Ty.mixed rfl rfl (by kernel_rfl) (by kernel_rfl) rfl
           ·refine ⟨?_, ?_, ?_, ?_, ?_, ?_, ?_, ?_, ?_, trivial⟩
            ·intro _ _ _ _;refine W_move rfl rfl ?_;exact Zs rfl rfl
            ·intro _ _ _ _;refine W_move rfl rfl ?_;exact Zs rfl rfl
            ·intro w54 vq54 hB54 hH54;have hS54 := hS37.below hB54;refine W_ix rfl Try.underlying49 Ty.cells57 Ty.info57 rfl rfl (he50.below hB54) hp50 rfl ?_;exact Zs rfl rfl
            ·intro w55 vq55 hB55 hH55;have hS55 := hS37.below hB55;refine W_ldg 0 ((idCells x46)) rfl Ty.agg57 Ty.size57 rfl (he50.below hB55) (by omega) (fun q u h => sub_at (post := []) rfl h) ?_;exact Zs rfl rfl
            ·intro _ _ _ _;refine W_move rfl rfl ?_;exact Zs rfl rfl
            ·intro _ _ _ _;refine W_move rfl rfl ?_;exact Zs rfl rfl
            ·intro _ _ _ _;refine W_subi rfl rfl rfl rfl ?_;exact Zs rfl rfl
            ·intro w59 vq59 hB59 hH59;have hS59 := hS37.below hB59;refine W_ix rfl Try.underlying49 Ty.cells57 Ty.info57 rfl rfl (he51.below hB59) hp51 rfl ?_;exact Zs rfl rfl
            ·intro w60 vq60 hB60 hH60;have hS60 := hS37.below hB60;refine W_ldg 0 ((idCells x48)) rfl Ty.agg57 Ty.size57 rfl (he51.below hB60) (by omega) (fun q u h => sub_at (post := []) rfl h) ?_;exact Zs rfl rfl
           intro w61 vq61 hB61 hH61;have hS61 := hS37.below hB61;refine W_neqI rfl Try.underlying57 Try.underlying5 Ty.cells5 Ty.info5 (by kernel_rfl) rfl rfl hle47 hle49 ?_;refine W_nil ?_;refine N_code ?_;refine C_cond rfl (fun hc62 => ?_) (fun hc62 => ?_)
           ·rw [if_t hc62] at H;refine C_seq ?_;obtain ⟨x63, hx63, H⟩ := bd_some H;obtain ⟨x65, hx65, H⟩ := bd_some H;refine C_region ?_;refine W_move rfl rfl ?_;refine W_move rfl rfl ?_;refine W_move rfl rfl ?_;refine W_move rfl rfl ?_;obtain ⟨hp67, hz67, hy67⟩ := ixp_some hx63;obtain ⟨cs67, hr67, he67⟩ := hS61.rowAt (k := 0) rfl hy67;obtain ⟨rfl, hle64⟩ := hr67;replace he67 := he67.piece hw26 hz67;replace he67 : El _ _ 32 _ _ := he67;refine W_ix rfl Try.underlying49 Ty.cells57 Ty.info57 rfl rfl he67 hp67 rfl ?_;refine W_ldg 0 ((idCells x63)) rfl Ty.agg57 Ty.size57 rfl he67 (by omega) (fun q u h => sub_at (post := []) rfl h) ?_;obtain ⟨hp68, hy68⟩ := ix_some hx65;obtain ⟨cs68, hr68, he68⟩ := hS61.rowAt (k := 0) rfl hy68;obtain ⟨rfl, hle66⟩ := hr68;replace he68 : El _ _ 32 _ _ := he68;refine W_ix rfl Try.underlying49 Ty.cells57 Ty.info57 rfl rfl he68 hp68 rfl ?_;refine W_put (c := idCells x63) 0 (i38.toNat) 0 x65 x63 rfl rfl hS61 rfl (ix_some hx65).2 (by first | rfl | (show _ = _ * 32 + _; omega)) rfl Ty.size57 (by intro y hy; simp [idCells] at hy; obtain ⟨_, _, rfl⟩ := hy; rfl) (by first | decide | exact Nat.le_of_ble_eq_true rfl) (by rintro cs ⟨rfl, c0⟩; exact ⟨rfl, hle64⟩) ?_;intro w69 hS69;refine W_nil ?_;refine N_code ?_;refine C_region ?_;refine W_move rfl rfl ?_;refine W_add rfl rfl rfl rfl ?_;refine W_assign rfl rfl ?_;refine W_nil ?_;refine N_block ?_;exact N_join _ ⟨wr (i38 + 1), (l40.set i38.toNat x63), H, ⟨F37, rfl, (Frz.le.refl _), hS69⟩⟩ ⟨rfl, rfl, rfl, rfl, trivial⟩
           ·rw [if_f hc62] at H;refine C_skip ?_;refine N_block ?_;exact N_join _ ⟨i38, l40, H, ⟨F37, rfl, (Frz.le.refl _), hS61⟩⟩ ⟨rfl, rfl, rfl, rfl, trivial⟩
          ·rintro E w43 ⟨i44, l45, H, F43, rfl, le43, hS43⟩;dsimp only [slices_Compact_32_byte_32_byte.k6] at H;refine C_region ?_;refine W_move rfl rfl ?_;refine W_add rfl rfl rfl rfl ?_;refine W_assign rfl rfl ?_;refine W_nil ?_;exact N_againM (i44, wr (i39 + 1), l45) _ H ⟨F43, rfl, (le37.trans le43), hS43⟩ ⟨rfl, rfl, rfl, rfl, trivial⟩
         ·rw [if_f hc42] at H;refine C_exit _ rfl ?_;exact N_join _ ⟨i38, l40, H, ⟨F37, rfl, le37, hS37⟩⟩ ⟨rfl, rfl, trivial⟩
       ·rintro E w27 ⟨i28, l29, H, F27, rfl, le27, hS27⟩;dsimp only [slices_Compact_32_byte_32_byte.k4] at H;refine C_seq ?_;obtain ⟨l30, hl30, H⟩ := bd_some H;obtain ⟨l32, hl32, H⟩ := bd_some H;refine C_region ?_;refine W_move rfl rfl ?_;refine W_move rfl rfl ?_;refine W_cutR 0 i28 (l29.length : Int) rfl Try.underlying49 Ty.cells57 Ty.info57 rfl ⟨_, rfl⟩ rfl hS27 rfl hl30 ?_;intro q31 hv31 hw31;refine W_clr (tr := tId) (x0 := (List.replicate 32 0)) 0 Try.underlying49 Ty.zero57 ⟨rfl, (List.length_replicate)⟩ rfl hS27 rfl hw31 hl32 ?_;intro w33 hS33;refine W_nil ?_;refine N_code ?_;refine C_seq ?_;obtain ⟨l34, hl34, H⟩ := bd_some H;refine C_region ?_;refine W_move rfl rfl ?_;refine W_move rfl rfl ?_;refine W_cutR 0 0 i28 rfl Try.underlying49 Ty.cells57 Ty.info57 rfl rfl ⟨_, rfl⟩ hS33 rfl hl34 ?_;intro q35 hv35 hw35;refine W_assign rfl rfl ?_;refine W_nil ?_;refine N_code ?_;have hS36 := hS33.shrink 0 rfl hw35 hl34;obtain rfl := Option.some.inj H;refine C_ret rfl rfl ?_;exact ⟨F27, q35, rfl, hS36⟩
      ·rw [if_f hc24] at H;refine C_skip ?_;refine N_block ?_;exact N_join _ ⟨H, ⟨F3, rfl, (Frz.le.refl _), hS23⟩⟩ ⟨rfl, rfl, trivial⟩
     ·rintro E w7 ⟨H, F7, rfl, le7, hS7⟩;dsimp only [slices_Compact_32_byte_32_byte.k3] at H;refine C_region ?_;refine W_move rfl rfl ?_;refine W_add rfl rfl rfl rfl ?_;refine W_assign rfl rfl ?_;refine W_nil ?_;exact N_againM (wr (i4 + 1)) _ H ⟨F7, rfl, (le3.trans le7), hS7⟩ ⟨rfl, rfl, trivial⟩
    ·rw [if_f hc6] at H;refine C_exit _ rfl ?_;exact N_join _ ⟨H, ⟨F3, rfl, le3, hS3⟩⟩ ⟨rfl, trivial⟩
  ·rintro E w2 ⟨H, F2, rfl, le2, hS2⟩;dsimp only [slices_Compact_32_byte_32_byte.k1] at H;refine C_seq ?_;refine C_region ?_;refine W_move rfl rfl ?_;refine W_assign rfl rfl ?_;refine W_nil ?_;refine N_code ?_;obtain rfl := Option.some.inj H;refine C_ret rfl rfl ?_;exact ⟨F2, v0, rfl, hS2⟩

def slices_Clone_32_byte_32_byte (x0 : List (List UInt8)) : Option (List (List UInt8)) :=
  bd (app (α := (List UInt8)) ([] : List (List UInt8)) x0) fun l6 =>
  some l6

theorem slices_Clone_32_byte_32_byte_ok {F : Frz} {w : World} {x0 : List (List UInt8)} {r : (List (List UInt8))} {v0 : Value} (hA : Agree F w.heap) (h0 : SlF tId F v0 x0) (H : slices_Clone_32_byte_32_byte x0 = some r) : Ret Try.prog 77 #[v0] w fun v w' => ∃ (F' : Frz) (q0 : Value), v = q0 ∧ St [] w F F' [.row tId 57 q0 (r)] w' := by
 refine Ret_of (args := [v0]) Try.func77 rfl rfl ?_;change C _ _ _ _ [(0, v0)] _;have hS := St.entry hA;dsimp only [slices_Clone_32_byte_32_byte] at H;refine C_seq ?_;refine C_region ?_;refine W_assign rfl rfl ?_;refine W_nil ?_;refine N_code ?_;refine C_seq ?_;refine C_seq ?_;refine C_region ?_;refine W_move rfl rfl ?_;refine W_nilq rfl Try.underlying49 rfl h0.ln ?_;intro b1 hb1;refine W_nil ?_;refine N_code ?_;refine C_cond rfl (fun hc2 => ?_) (fun hc2 => ?_)
 ·have hx2 : x0 = [] := List.eq_nil_of_length_eq_zero (hb1 hc2);have H : (some [] : Option (List (List UInt8))) = some r := by first | (rw [hx2] at H; exact H) | (subst hx2; exact H)
  refine C_seq ?_;refine C_region ?_;refine W_assign rfl rfl ?_;refine W_nil ?_;refine N_code ?_;have hS4 := hS.nilRow tId 57;obtain rfl := Option.some.inj H;refine C_ret rfl rfl ?_;exact ⟨F, (.slice none 0 0), rfl, hS4⟩
 ·refine C_skip ?_;refine N_code ?_;refine C_seq ?_;obtain ⟨l6, hl6, H⟩ := bd_some H;refine C_region ?_;refine W_bs (t := tId) [] ([] : List (List UInt8)) rfl Try.underlying49 Ty.cells57 rfl rfl Ty.zero57 rfl rfl trivial rfl rfl hS ?_;intro u5 w5 hS5;refine W_move rfl rfl ?_;refine W_appM 0 rfl Try.underlying49 Ty.row57 rfl rfl rfl rfl rfl hS5 rfl (h0.src hS5.agree) hl6 ?_;intro v7 w7 hS7;refine W_assign rfl rfl ?_;refine W_nil ?_;refine N_code ?_;obtain rfl := Option.some.inj H;refine C_ret rfl rfl ?_;exact ⟨F, v7, rfl, hS7⟩

def manifest_Ids.k1 (l3 : List (List UInt8)) : Option (List (List UInt8)) :=
  bdS cmpT l3 fun l6 =>
  bd (slices_Compact_32_byte_32_byte l6) fun r8 =>
  bd (slices_Clone_32_byte_32_byte r8) fun r9 =>
  some r9


def manifest_Ids.l2 (x0 : Manifest) (rec18 : ((List (List UInt8)) × Int) → Option (List (List UInt8))) : ((List (List UInt8)) × Int) → Option (List (List UInt8))
  | (l14, i17) =>
    if decide (i17 < (x0.parts.length : Int)) then
      bd (ix x0.parts i17) fun x20 =>
      bd (app (α := (List UInt8)) l14 x20.ids) fun l25 =>
      rec18 (l25, wr (i17 + 1))
    else
      manifest_Ids.k1 l14

def manifest_Ids (x0 : Manifest) : Option (List (List UInt8)) :=
  loop (manifest_Ids.l2 x0) ([], 0)

theorem manifest_Ids_ok {F : Frz} {w : World} {x0 : Manifest} {r : (List (List UInt8))} {v0_0 : Value} (hA : Agree F w.heap) (h0_0 : SlF Part.t F v0_0 x0.parts) (H : manifest_Ids x0 = some r) : Ret Try.prog 35 #[.agg (Manifest.cells x0 v0_0).toArray] w fun v w' => ∃ (F' : Frz) (q0 : Value), v = q0 ∧ St [] w F F' [.row tId 57 q0 (r)] w' := by
 refine Ret_of (args := [.agg (Manifest.cells x0 v0_0).toArray]) Try.func35 rfl rfl ?_;change C _ _ _ _ [(0, .agg (Manifest.cells x0 v0_0).toArray)] _;have hS := St.entry hA;dsimp only [manifest_Ids] at H;refine C_seq ?_;refine C_region ?_;refine W_bx (cs := [strV x0.name, v0_0]) rfl rfl rfl hS ?_;intro g1 w1 hS1;refine W_assign rfl rfl ?_;refine W_nil ?_;refine N_code ?_;refine C_seq ?_;refine C_region ?_;refine W_assign rfl rfl ?_;refine W_nil ?_;refine N_code ?_;refine C_seq_join (fun E wq => ∃ l3 : List (List UInt8), manifest_Ids.k1 l3 = some r ∧ ∃ (F2 : Frz) (u4 : Value), E = [(3, u4)] ∧ F.le F2 ∧ St [] w F F2 [.row tId 57 u4 l3] wq) ?_ ?_
 ·refine C_seq ?_;refine C_region ?_;refine W_field_pl 1 rfl Ty.field45_1 rfl ?_;refine W_bld1 0 rfl Ty.cell43 rfl hS1 rfl rfl ?_;refine W_lenv rfl Try.underlying43 rfl h0_0.ln ?_;refine W_move rfl rfl ?_;refine W_nil ?_;refine N_code ?_;refine C_block ?_;refine C_loopM (fun (s : (List (List UInt8)) × Int) E wq => ∃ (F13 : Frz) (u15 : Value), E = [(3, u15), (7, v0_0), (8, .int .i64 (x0.parts.length : Int)), (9, .int .i64 s.2)] ∧ F.le F13 ∧ St [] w F F13 [.row tId 57 u15 s.1] wq) H ?_ ?_
  ·have hS28 := hS1.nilRow tId 57;exact ⟨_, ⟨F, (.slice none 0 0), rfl, (Frz.le.refl _), hS28.pick [0] (by decide)⟩, ⟨rfl, rfl, rfl, rfl, trivial⟩⟩
  ·rintro rec18 ⟨l14, i17⟩ E w13 hI H;(try dsimp only at hI);obtain ⟨F13, u15, rfl, le13, hS13⟩ := hI;dsimp only [manifest_Ids.l2] at H;refine C_seq ?_;refine C_region ?_;refine W_lss rfl rfl rfl ?_;refine W_nil ?_;refine N_code ?_;refine C_seq ?_;refine C_cond rfl (fun hc19 => ?_) (fun hc19 => ?_)
   ·rw [if_t hc19] at H;refine C_skip ?_;refine N_code ?_;refine C_seq ?_;refine C_block ?_;refine C_seq ?_;obtain ⟨x20, hx20, H⟩ := bd_some H;refine C_region ?_;obtain ⟨hp23, hy23⟩ := ix_some hx20;obtain ⟨cs23, hr23, he23⟩ := (h0_0.mono le13).at_ hy23;obtain ⟨ue21_0, rfl, hue21_0⟩ := hr23;replace he23 : Elf _ _ 3 _ _ := he23;refine W_ix rfl Try.underlying43 Ty.cells51 Ty.info51 rfl rfl (he23.el hS13.agree) hp23 rfl ?_;refine W_ldg 0 ((Part.cells x20 ue21_0)) rfl Ty.agg51 Ty.size51 rfl (he23.el hS13.agree) (by omega) (fun q u h => sub_at (post := []) rfl h) ?_;refine W_alc (cs := [strV [], .int .i64 0, .slice none 0 0]) rfl Ty.zero51 rfl hS13 ?_;intro g22 w22 hS22;refine W_bst (c := [strV x20.path, .int .i64 x20.size, ue21_0]) 0 ([strV x20.path, .int .i64 x20.size, ue21_0]) rfl rfl hS22 rfl rfl Ty.size51 (fun y hy => Part.t.one (F := F13) (x := x20) ⟨ue21_0, rfl, hue21_0⟩ y hy) (Nat.le_of_ble_eq_true rfl) rfl ?_;intro w24 hS24;refine W_nil ?_;refine N_code ?_;obtain ⟨l25, hl25, H⟩ := bd_some H;refine C_region ?_;refine W_move rfl rfl ?_;refine W_field_pl 2 rfl Ty.field51_2 rfl ?_;refine W_bld1 0 rfl Ty.cell49 rfl hS24 rfl rfl ?_;refine W_appM 1 rfl Try.underlying49 Ty.row57 rfl rfl rfl rfl rfl hS24 rfl (hue21_0.src hS24.agree) hl25 ?_;intro v26 w26 hS26;refine W_assign rfl rfl ?_;refine W_nil ?_;refine N_block ?_;refine N_code ?_;refine C_region ?_;refine W_add rfl rfl rfl rfl ?_;refine W_move rfl rfl ?_;refine W_nil ?_;exact N_againM (l25, wr (i17 + 1)) _ H ⟨F13, v26, rfl, le13, hS26.pick [1] (by decide)⟩ ⟨rfl, rfl, rfl, rfl, trivial⟩
   ·rw [if_f hc19] at H;refine C_exit _ rfl ?_;exact N_join _ ⟨l14, H, ⟨F13, u15, rfl, le13, hS13⟩⟩ ⟨rfl, trivial⟩
 ·rintro E w2 ⟨l3, H, F2, u4, rfl, le2, hS2⟩;dsimp only [manifest_Ids.k1] at H;refine C_seq ?_;obtain ⟨hlenl6, H⟩ := bdS_some H;refine C_region ?_;refine W_move rfl rfl ?_;refine W_call rfl Ty.named76 rfl (sortIds_ok (hS2.lendRow 0 rfl) hlenl6) ?_;rintro v7 w7 ⟨F7, l6, hpl6, hrl6, hT7⟩;replace H := H l6 hpl6 hrl6;have hS7 := hS2.backRow 0 [] rfl (by decide) (by decide) hT7;have le7 := hT7.ext;refine W_nil ?_;refine N_code ?_;refine C_seq ?_;obtain ⟨r8, hr8, H⟩ := bd_some H;obtain ⟨r9, hr9, H⟩ := bd_some H;refine C_region ?_;refine W_move rfl rfl ?_;refine W_call rfl Ty.named78 rfl (slices_Compact_32_byte_32_byte_ok (hS7.lendRow 0 rfl) hr8) ?_;rintro ur8_0 w10 ⟨Fr8, _, rfl, hT10⟩;have hS10 := hS7.backRow 0 [] rfl (by decide) (by decide) hT10;have ler8 := hT10.ext;obtain ⟨F11, le11, hf11, hS11⟩ := hS10.freeze 0 [] rfl (by decide) (by decide);refine W_call rfl Ty.named77 rfl (slices_Clone_32_byte_32_byte_ok hS11.agree hf11 hr9) ?_;rintro ur9_0 w12 ⟨Fr9, _, rfl, hT12⟩;have hS12 := hS11.call hT12;have ler9 := hT12.ext;refine W_assign rfl rfl ?_;refine W_nil ?_;refine N_code ?_;obtain rfl := Option.some.inj H;refine C_ret rfl rfl ?_;exact ⟨Fr9, ur9_0, rfl, hS12⟩

end
end Go.Wk.Lf
