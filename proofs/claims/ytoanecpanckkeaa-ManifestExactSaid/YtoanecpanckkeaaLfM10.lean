import Derived.Test.YtoanecpanckkeaaLfS
namespace Go.Wk.Lf
open Go.Proofs Go.RowKit
set_option linter.unusedVariables false
set_option linter.unusedSimpArgs false
noncomputable section

def cellarerkeep_TwinManifest.k1 (x0 : Manifest) (l4 : List Part) : Option Manifest :=
  some (Manifest.mk x0.name l4)


def cellarerkeep_TwinManifest.l2 (x0 : Manifest) (rec15 : ((List Part) × Int) → Option Manifest) : ((List Part) × Int) → Option Manifest
  | (l11, i14) =>
    if decide (i14 < (x0.parts.length : Int)) then
      bd (ix x0.parts i14) fun x17 =>
      bd (app (α := (List UInt8)) [] x17.ids) fun l22 =>
      bd (app (α := Part) l11 [(Part.mk x17.path x17.size l22)]) fun l27 =>
      rec15 (l27, wr (i14 + 1))
    else
      cellarerkeep_TwinManifest.k1 x0 l11

def cellarerkeep_TwinManifest (x0 : Manifest) : Option Manifest :=
  loop (cellarerkeep_TwinManifest.l2 x0) ([], 0)

theorem cellarerkeep_TwinManifest_ok {F : Frz} {w : World} {x0 : Manifest} {r : Manifest} {v0_0 : Value} (hA : Agree F w.heap) (h0_0 : SlF Part.t F v0_0 x0.parts) (H : cellarerkeep_TwinManifest x0 = some r) : Ret Try.prog 48 #[.agg (Manifest.cells x0 v0_0).toArray] w fun v w' => ∃ (F' : Frz) (q0_0 : Value), v = .agg (Manifest.cells r q0_0).toArray ∧ SlF Part.t F' q0_0 (r.parts) ∧ St [] w F F' [] w' := by
 refine Ret_of (args := [.agg (Manifest.cells x0 v0_0).toArray]) Try.func48 rfl rfl ?_;change C _ _ _ _ [(0, .agg (Manifest.cells x0 v0_0).toArray)] _;have hS := St.entry hA;dsimp only [cellarerkeep_TwinManifest] at H;refine C_seq ?_;refine C_region ?_;refine W_bx (cs := [strV x0.name, v0_0]) rfl rfl rfl hS ?_;intro g1 w1 hS1;refine W_alc (cs := [strV [], .slice none 0 0]) rfl Ty.zero45 rfl hS1 ?_;intro g2 w2 hS2;refine W_nil ?_;refine N_code ?_;refine C_seq ?_;refine C_region ?_;refine W_assign rfl rfl ?_;refine W_nil ?_;refine N_code ?_;refine C_seq_join (fun E wq => ∃ l4 : List Part, cellarerkeep_TwinManifest.k1 x0 l4 = some r ∧ ∃ (F3 : Frz) (u5 : Value), E = [(1, pl g1 0), (2, pl g2 0), (3, u5)] ∧ F.le F3 ∧ St [] w F F3 [.box g2 45 [strV [], .slice none 0 0], .box g1 45 [strV x0.name, v0_0], .row Part.t 51 u5 l4] wq) ?_ ?_
 ·refine C_seq ?_;refine C_region ?_;refine W_assign rfl rfl ?_;refine W_nil ?_;refine N_code ?_;refine C_block ?_;refine C_loopM (fun (s : (List Part) × Int) E wq => ∃ (F10 : Frz) (u12 : Value), E = [(1, pl g1 0), (2, pl g2 0), (3, u12), (4, .int .i64 s.2)] ∧ F.le F10 ∧ St [] w F F10 [.box g2 45 [strV [], .slice none 0 0], .box g1 45 [strV x0.name, v0_0], .row Part.t 51 u12 s.1] wq) H ?_ ?_
  ·have hS31 := hS2.nilRow Part.t 51;exact ⟨_, ⟨F, (.slice none 0 0), rfl, (Frz.le.refl _), hS31.pick [1, 2, 0] (by decide)⟩, ⟨rfl, rfl, rfl, rfl, trivial⟩⟩
  ·rintro rec15 ⟨l11, i14⟩ E w10 hI H;(try dsimp only at hI);obtain ⟨F10, u12, rfl, le10, hS10⟩ := hI;dsimp only [cellarerkeep_TwinManifest.l2] at H;refine C_seq ?_;refine C_seq ?_;refine C_region ?_;refine W_move rfl rfl ?_;refine W_field_pl 1 rfl Ty.field45_1 rfl ?_;refine W_bld1 1 rfl Ty.cell43 rfl hS10 rfl rfl ?_;refine W_lenv rfl Try.underlying43 rfl h0_0.ln ?_;refine W_lss rfl rfl rfl ?_;refine W_nil ?_;refine N_code ?_;refine C_cond rfl (fun hc16 => ?_) (fun hc16 => ?_)
   ·rw [if_t hc16] at H;refine C_skip ?_;refine N_code ?_;refine C_seq ?_;refine C_block ?_;refine C_seq ?_;obtain ⟨x17, hx17, H⟩ := bd_some H;refine C_region ?_;refine W_field_pl 1 rfl Ty.field45_1 rfl ?_;refine W_bld1 1 rfl Ty.cell43 rfl hS10 rfl rfl ?_;refine W_move rfl rfl ?_;obtain ⟨hp20, hy20⟩ := ix_some hx17;obtain ⟨cs20, hr20, he20⟩ := (h0_0.mono le10).at_ hy20;obtain ⟨ue18_0, rfl, hue18_0⟩ := hr20;replace he20 : Elf _ _ 3 _ _ := he20;refine W_ix rfl Try.underlying43 Ty.cells51 Ty.info51 rfl rfl (he20.el hS10.agree) hp20 rfl ?_;refine W_ldg 0 ((Part.cells x17 ue18_0)) rfl Ty.agg51 Ty.size51 rfl (he20.el hS10.agree) (by omega) (fun q u h => sub_at (post := []) rfl h) ?_;refine W_alc (cs := [strV [], .int .i64 0, .slice none 0 0]) rfl Ty.zero51 rfl hS10 ?_;intro g19 w19 hS19;refine W_bst (c := [strV x17.path, .int .i64 x17.size, ue18_0]) 0 ([strV x17.path, .int .i64 x17.size, ue18_0]) rfl rfl hS19 rfl rfl Ty.size51 (fun y hy => Part.t.one (F := F10) (x := x17) ⟨ue18_0, rfl, hue18_0⟩ y hy) (Nat.le_of_ble_eq_true rfl) rfl ?_;intro w21 hS21;refine W_nil ?_;refine N_code ?_;refine C_seq ?_;refine C_region ?_;refine W_assign rfl rfl ?_;refine W_nil ?_;refine N_code ?_;refine C_seq ?_;obtain ⟨l22, hl22, H⟩ := bd_some H;refine C_region ?_;refine W_move rfl rfl ?_;refine W_field_pl 2 rfl Ty.field51_2 rfl ?_;refine W_bld1 0 rfl Ty.cell49 rfl hS21 rfl rfl ?_;have hS24 := hS21.nilRow tId 57;refine W_appM 0 rfl Try.underlying49 Ty.row57 rfl rfl rfl rfl rfl hS24 rfl (hue18_0.src hS24.agree) hl22 ?_;intro v23 w23 hS23;refine W_field_pl 2 rfl Ty.field51_2 rfl ?_;refine W_bst (c := [v23]) 1 ([strV x17.path, .int .i64 x17.size, v23]) rfl rfl hS23 rfl (by rw [(hS23.rowLn (k := 0) rfl).cells]) Ty.size49 (by intro y hy; simp at hy; subst hy; exact (hS23.rowLn (k := 0) rfl).one) (Nat.le_of_ble_eq_true rfl) rfl ?_;intro w25 hS25;refine W_nil ?_;refine N_code ?_;obtain ⟨l27, hl27, H⟩ := bd_some H;refine C_region ?_;refine W_move rfl rfl ?_;refine W_bldg 1 ((Part.cells (Part.mk x17.path x17.size l22) v23)) rfl Ty.agg51 Ty.size51 rfl hS25 rfl (fun q u h => sub_at (post := []) rfl h) ?_;obtain ⟨F29, le29, hf29, hS29⟩ := hS25.freeze 0 [1, 2, 3, 4] rfl (by decide) (by decide);refine W_bs (t := Part.t) [(Part.cells (Part.mk x17.path x17.size l22) v23)] [(Part.mk x17.path x17.size l22)] rfl Try.underlying43 Ty.cells51 rfl rfl Ty.zero51 rfl rfl ⟨⟨v23, rfl, hf29⟩, trivial⟩ rfl rfl hS29 ?_;intro u26 w26 hS26;refine W_appM 4 rfl Try.underlying43 Ty.row51 rfl rfl rfl rfl rfl hS26 rfl (hS26.rowSrc (j := 0) rfl) hl27 ?_;intro v28 w28 hS28;refine W_assign rfl rfl ?_;refine W_nil ?_;refine N_block ?_;refine N_code ?_;refine C_region ?_;refine W_move rfl rfl ?_;refine W_add rfl rfl rfl rfl ?_;refine W_assign rfl rfl ?_;refine W_nil ?_;exact N_againM (l27, wr (i14 + 1)) _ H ⟨F29, v28, rfl, (le10.trans le29), hS28.pick [2, 3, 4] (by decide)⟩ ⟨rfl, rfl, rfl, rfl, trivial⟩
   ·rw [if_f hc16] at H;refine C_exit _ rfl ?_;exact N_join _ ⟨l11, H, ⟨F10, u12, rfl, le10, hS10⟩⟩ ⟨rfl, rfl, rfl, trivial⟩
 ·rintro E w3 ⟨l4, H, F3, u5, rfl, le3, hS3⟩;dsimp only [cellarerkeep_TwinManifest.k1] at H;refine C_seq ?_;refine C_region ?_;refine W_move rfl rfl ?_;refine W_field_pl 1 rfl Ty.field45_1 rfl ?_;refine W_bst (c := [u5]) 1 ([strV x0.name, u5]) rfl rfl hS3 rfl (by rw [(hS3.rowLn (k := 2) rfl).cells]) Ty.size43 (by intro y hy; simp at hy; subst hy; exact (hS3.rowLn (k := 2) rfl).one) (Nat.le_of_ble_eq_true rfl) rfl ?_;intro w7 hS7;refine W_nil ?_;refine N_code ?_;refine C_seq ?_;refine C_region ?_;refine W_bldg 1 ((Manifest.cells (Manifest.mk x0.name l4) u5)) rfl Ty.agg45 Ty.size45 rfl hS7 rfl (fun q u h => sub_at (post := []) rfl h) ?_;refine W_bst (c := [strV x0.name, u5]) 0 ([strV x0.name, u5]) rfl rfl hS7 rfl rfl Ty.size45 (by intro y hy; simp only [List.mem_append, List.mem_cons, List.not_mem_nil, or_false, or_assoc] at hy; rcases hy with hy | hy <;> first | (subst hy; rfl) | (subst hy; exact (hS7.rowLn (k := 2) rfl).one)) (Nat.le_of_ble_eq_true rfl) rfl ?_;intro w8 hS8;refine W_nil ?_;refine N_code ?_;obtain ⟨F9, le9, hf9, hS9⟩ := hS8.freeze 2 [0, 1] rfl (by decide) (by decide);obtain rfl := Option.some.inj H;refine C_retM (vs := [.agg (Manifest.cells (Manifest.mk x0.name l4) u5).toArray]) rfl ⟨(box_out 0 Ty.agg45 Ty.size45 hS9 rfl rfl), trivial⟩ ?_;exact ⟨F9, u5, rfl, hf9, hS9.pick [] (by decide)⟩

def cellarerref14_before.k1 : Option Bool :=
  some false


def cellarerref14_before.l2 (x0 : List UInt8) (x1 : List UInt8) (rec6 : Int → Option Bool) : Int → Option Bool
  | i5 =>
    if decide (i5 < 32) then
      bd (ix x0 i5) fun x8 =>
      bd (ix x1 i5) fun x9 =>
      if decide ((x8.toNat : Int) ≠ (x9.toNat : Int)) then
        bd (ix x0 i5) fun x22 =>
        bd (ix x1 i5) fun x23 =>
        some (decide ((x22.toNat : Int) < (x23.toNat : Int)))
      else
        rec6 (wr (i5 + 1))
    else
      cellarerref14_before.k1

def cellarerref14_before (x0 : List UInt8) (x1 : List UInt8) : Option Bool :=
  loop (cellarerref14_before.l2 x0 x1) 0

theorem cellarerref14_before_ok {F : Frz} {w : World} {x0 : List UInt8} {x1 : List UInt8} {r : Bool} (hA : Agree F w.heap) (h0 : x0.length = 32) (h1 : x1.length = 32) (H : cellarerref14_before x0 x1 = some r) : Ret Try.prog 104 #[.agg (idCells x0).toArray, .agg (idCells x1).toArray] w fun v w' => ∃ (F' : Frz), v = .bool r ∧ St [] w F F' [] w' := by
 refine Ret_of (args := [.agg (idCells x0).toArray, .agg (idCells x1).toArray]) Try.func104 rfl rfl ?_;change C _ _ _ _ [(0, .agg (idCells x0).toArray), (1, .agg (idCells x1).toArray)] _;have hS := St.entry hA;dsimp only [cellarerref14_before] at H;refine C_seq ?_;refine C_region ?_;refine W_bx (cs := idCells x0) rfl rfl rfl hS ?_;intro g1 w1 hS1;refine W_bx (cs := idCells x1) rfl rfl rfl hS1 ?_;intro g2 w2 hS2;refine W_assign rfl rfl ?_;refine W_nil ?_;refine N_code ?_;refine C_seq_join (fun E wq => cellarerref14_before.k1 = some r ∧ ∃ (F3 : Frz), E = [] ∧ F.le F3 ∧ St [] w F F3 [] wq) ?_ ?_
 ·refine C_seq ?_;refine C_region ?_;refine W_assign rfl rfl ?_;refine W_nil ?_;refine N_code ?_;refine C_block ?_;refine C_loopM (fun (s : Int) E wq => ∃ (F4 : Frz), E = [(2, pl g1 0), (3, pl g2 0), (5, .int .i64 s)] ∧ F.le F4 ∧ St [] w F F4 [.box g2 57 (idCells x1), .box g1 57 (idCells x0)] wq) H ?_ ?_
  ·exact ⟨_, ⟨F, rfl, (Frz.le.refl _), hS2⟩, ⟨rfl, rfl, rfl, trivial⟩⟩
  ·rintro rec6 i5 E w4 hI H;(try dsimp only at hI);obtain ⟨F4, rfl, le4, hS4⟩ := hI;dsimp only [cellarerref14_before.l2] at H;refine C_seq ?_;refine C_seq ?_;refine C_region ?_;refine W_move rfl rfl ?_;refine W_lss rfl rfl rfl ?_;refine W_nil ?_;refine N_code ?_;refine C_cond rfl (fun hc7 => ?_) (fun hc7 => ?_)
   ·rw [if_t hc7] at H;refine C_skip ?_;refine N_code ?_;refine C_seq ?_;refine C_block ?_;refine C_seq ?_;obtain ⟨x8, hx8, H⟩ := bd_some H;obtain ⟨x9, hx9, H⟩ := bd_some H
    apply C_draw 6 [[], [0], [1], [], [3], [4]] [.val (.int .i64 i5), .val (pl g1 i5.toNat), .val (.int .u8 (x8.toNat : Int)), .val (.int .i64 i5), .val (pl g2 i5.toNat), .val (.int .u8 (x9.toNat : Int))] Ty.mixed rfl rfl (by kernel_rfl) (by kernel_rfl) rfl
    ·refine ⟨?_, ?_, ?_, ?_, ?_, ?_, trivial⟩
     ·intro _ _ _ _;refine W_move rfl rfl ?_;exact Zs rfl rfl
     ·intro _ _ _ _;obtain ⟨hp12, hy12⟩ := ix_some hx8;refine W_ixB rfl Try.underlying57 Ty.cells5 Ty.info5 rfl rfl hp12 rfl (by have := (List.getElem?_eq_some_iff.1 hy12).1; have := h0; omega) ?_;exact Zs rfl rfl
     ·intro w13 vq13 hB13 hH13;have hS13 := hS4.below hB13;obtain ⟨_, hy14⟩ := ix_some hx8;refine W_bld1 1 rfl Ty.cell5 rfl hS13 rfl (id_at h0 hy14) ?_;exact Zs rfl rfl
     ·intro _ _ _ _;refine W_move rfl rfl ?_;exact Zs rfl rfl
     ·intro _ _ _ _;obtain ⟨hp17, hy17⟩ := ix_some hx9;refine W_ixB rfl Try.underlying57 Ty.cells5 Ty.info5 rfl rfl hp17 rfl (by have := (List.getElem?_eq_some_iff.1 hy17).1; have := h1; omega) ?_;exact Zs rfl rfl
     ·intro w18 vq18 hB18 hH18;have hS18 := hS4.below hB18;obtain ⟨_, hy19⟩ := ix_some hx9;refine W_bld1 0 rfl Ty.cell5 rfl hS18 rfl (id_at h1 hy19) ?_;exact Zs rfl rfl
    intro w20 vq20 hB20 hH20;have hS20 := hS4.below hB20;refine W_neq rfl rfl rfl ?_;refine W_nil ?_;refine N_code ?_;refine C_cond rfl (fun hc21 => ?_) (fun hc21 => ?_)
    ·rw [if_t hc21] at H;refine C_seq ?_;obtain ⟨x22, hx22, H⟩ := bd_some H;obtain ⟨x23, hx23, H⟩ := bd_some H
     apply C_draw 6 [[], [0], [1], [], [3], [4]] [.val (.int .i64 i5), .val (pl g1 i5.toNat), .val (.int .u8 (x22.toNat : Int)), .val (.int .i64 i5), .val (pl g2 i5.toNat), .val (.int .u8 (x23.toNat : Int))] Ty.mixed rfl rfl (by kernel_rfl) (by kernel_rfl) rfl
     ·refine ⟨?_, ?_, ?_, ?_, ?_, ?_, trivial⟩
      ·intro _ _ _ _;refine W_move rfl rfl ?_;exact Zs rfl rfl
      ·intro _ _ _ _;obtain ⟨hp26, hy26⟩ := ix_some hx22;refine W_ixB rfl Try.underlying57 Ty.cells5 Ty.info5 rfl rfl hp26 rfl (by have := (List.getElem?_eq_some_iff.1 hy26).1; have := h0; omega) ?_;exact Zs rfl rfl
      ·intro w27 vq27 hB27 hH27;have hS27 := hS20.below hB27;obtain ⟨_, hy28⟩ := ix_some hx22;refine W_bld1 1 rfl Ty.cell5 rfl hS27 rfl (id_at h0 hy28) ?_;exact Zs rfl rfl
      ·intro _ _ _ _;refine W_move rfl rfl ?_;exact Zs rfl rfl
      ·intro _ _ _ _;obtain ⟨hp31, hy31⟩ := ix_some hx23;refine W_ixB rfl Try.underlying57 Ty.cells5 Ty.info5 rfl rfl hp31 rfl (by have := (List.getElem?_eq_some_iff.1 hy31).1; have := h1; omega) ?_;exact Zs rfl rfl
      ·intro w32 vq32 hB32 hH32;have hS32 := hS20.below hB32;obtain ⟨_, hy33⟩ := ix_some hx23;refine W_bld1 0 rfl Ty.cell5 rfl hS32 rfl (id_at h1 hy33) ?_;exact Zs rfl rfl
     intro w34 vq34 hB34 hH34;have hS34 := hS20.below hB34;refine W_lss rfl rfl rfl ?_;refine W_assign rfl rfl ?_;refine W_nil ?_;refine N_code ?_;obtain rfl := Option.some.inj H;refine C_ret rfl rfl ?_;exact ⟨F4, rfl, hS34.pick [] (by decide)⟩
    ·rw [if_f hc21] at H;refine C_skip ?_;refine N_block ?_;refine N_code ?_;refine C_region ?_;refine W_move rfl rfl ?_;refine W_add rfl rfl rfl rfl ?_;refine W_assign rfl rfl ?_;refine W_nil ?_;exact N_againM (wr (i5 + 1)) _ H ⟨F4, rfl, le4, hS20⟩ ⟨rfl, rfl, rfl, trivial⟩
   ·rw [if_f hc7] at H;refine C_exit _ rfl ?_;exact N_join _ ⟨H, ⟨F4, rfl, le4, hS4.pick [] (by decide)⟩⟩ trivial
 ·rintro E w3 ⟨H, F3, rfl, le3, hS3⟩;dsimp only [cellarerref14_before.k1] at H;refine C_seq ?_;refine C_region ?_;refine W_assign rfl rfl ?_;refine W_nil ?_;refine N_code ?_;obtain rfl := Option.some.inj H;refine C_ret rfl rfl ?_;exact ⟨F3, rfl, hS3⟩

def cellarerref14_Add.k1 (x0 : List (List UInt8)) (x1 : List UInt8) (i3 : Int) : Option ((List (List UInt8)) × Int × Bool) :=
  bd (only (decide (i3 < (x0.length : Int))) (ix x0 i3) (List.replicate 32 0)) fun x4 =>
  if (decide (i3 < (x0.length : Int)) && decide (x4 = x1)) then
    some (x0, i3, false)
  else
    bd (cut (α := (List UInt8)) x0 0 i3) fun l35 =>
    bd (app (α := (List UInt8)) [] l35) fun l37 =>
    bd (app (α := (List UInt8)) l37 [x1]) fun l40 =>
    bd (cut (α := (List UInt8)) x0 i3 (x0.length : Int)) fun l50 =>
    bd (app (α := (List UInt8)) l40 l50) fun l52 =>
    some (l52, i3, true)


def cellarerref14_Add.l2 (x0 : List (List UInt8)) (x1 : List UInt8) (rec57 : Int → Option ((List (List UInt8)) × Int × Bool)) : Int → Option ((List (List UInt8)) × Int × Bool)
  | i56 =>
    bd (only (decide (i56 < (x0.length : Int))) (ix x0 i56) (List.replicate 32 0)) fun x58 =>
    bd (only (decide (i56 < (x0.length : Int))) (cellarerref14_before x58 x1) false) fun r60 =>
    if (decide (i56 < (x0.length : Int)) && r60) then
      rec57 (wr (i56 + 1))
    else
      cellarerref14_Add.k1 x0 x1 i56

def cellarerref14_Add (x0 : List (List UInt8)) (x1 : List UInt8) : Option ((List (List UInt8)) × Int × Bool) :=
  loop (cellarerref14_Add.l2 x0 x1) 0

theorem cellarerref14_Add_ok {F : Frz} {w : World} {x0 : List (List UInt8)} {x1 : List UInt8} {r : (List (List UInt8)) × Int × Bool} {v0 : Value} (hA : Agree F w.heap) (h0 : SlF tId F v0 x0) (h1 : x1.length = 32) (H : cellarerref14_Add x0 x1 = some r) : Ret Try.prog 85 #[v0, .agg (idCells x1).toArray] w fun v w' => ∃ (F' : Frz) (q0 : Value), v = .tuple #[q0, .int .i64 r.2.1, .bool r.2.2] ∧ SlF tId F' q0 (r.1) ∧ St [] w F F' [] w' := by
 refine Ret_of (args := [v0, .agg (idCells x1).toArray]) Try.func85 rfl rfl ?_;change C _ _ _ _ [(0, v0), (1, .agg (idCells x1).toArray)] _;have hS := St.entry hA;dsimp only [cellarerref14_Add] at H;refine C_seq ?_;refine C_region ?_;refine W_bx (cs := idCells x1) rfl rfl rfl hS ?_;intro g1 w1 hS1;refine W_assign rfl rfl ?_;refine W_assign rfl rfl ?_;refine W_assign rfl rfl ?_;refine W_nil ?_;refine N_code ?_;refine C_seq ?_;refine C_region ?_;refine W_assign rfl rfl ?_;refine W_nil ?_;refine N_code ?_;refine C_seq_join (fun E wq => ∃ i3 : Int, cellarerref14_Add.k1 x0 x1 i3 = some r ∧ ∃ (F2 : Frz), E = [(0, v0), (3, pl g1 0), (7, .int .i64 i3)] ∧ F.le F2 ∧ St [] w F F2 [.box g1 57 (idCells x1)] wq) ?_ ?_
 ·refine C_block ?_;refine C_loopM (fun (s : Int) E wq => ∃ (F55 : Frz), E = [(0, v0), (3, pl g1 0), (7, .int .i64 s)] ∧ F.le F55 ∧ St [] w F F55 [.box g1 57 (idCells x1)] wq) H ?_ ?_
  ·exact ⟨_, ⟨F, rfl, (Frz.le.refl _), hS1⟩, ⟨rfl, rfl, rfl, trivial⟩⟩
  ·rintro rec57 i56 E w55 hI H;(try dsimp only at hI);obtain ⟨F55, rfl, le55, hS55⟩ := hI;dsimp only [cellarerref14_Add.l2] at H;refine C_seq ?_;refine C_seq ?_;obtain ⟨x58, hx58, H⟩ := bd_some H;obtain ⟨r60, hr60, H⟩ := bd_some H;refine C_join (fun E wq => E = [(0, v0), (3, pl g1 0), (7, .int .i64 i56), (20, .bool (decide (i56 < (x0.length : Int)) && r60))] ∧ ∃ F61 : Frz, F55.le F61 ∧ St [] w F F61 [.box g1 57 (idCells x1)] wq) ?_ ?_
   ·
    rcases Bool.eq_false_or_eq_true (decide (i56 < (x0.length : Int))) with hb62 | hb62
    ·have hy63 := hx58;rw [only_t hb62] at hy63;obtain ⟨hp64, hy64⟩ := ix_some hy63;obtain ⟨cs64, hr64, he64⟩ := (h0.mono le55).at_ hy64;obtain ⟨rfl, hle59⟩ := hr64;replace he64 : Elf _ _ 32 _ _ := he64
     apply C_draw 11 [[], [], [1], [0, 2], [3], [4], [4], [5, 6, 4], [7, 4], [4], [8, 9, 4]] [.val (.int .i64 i56), .val (v0), .val (.int .i64 (x0.length : Int)), .val (.bool (decide (i56 < (x0.length : Int)))), .val (.bool true), .val (v0), .val (.int .i64 i56), .val (elp v0 (i56.toNat * 32)), .val (.agg (idCells x58).toArray), .val (.agg (idCells x1).toArray), .val (.bool r60)] Ty.mixed rfl rfl (by kernel_rfl) (by kernel_rfl) rfl
     ·refine ⟨?_, ?_, ?_, ?_, ?_, ?_, ?_, ?_, ?_, ?_, ?_, trivial⟩
      ·intro _ _ _ _;refine W_move rfl rfl ?_;exact Zs rfl rfl
      ·intro _ _ _ _;refine W_move rfl rfl ?_;exact Zs rfl rfl
      ·intro _ _ _ _;refine W_lenv rfl Try.underlying49 rfl h0.ln ?_;exact Zs rfl rfl
      ·intro _ _ _ _;refine W_lss rfl rfl rfl ?_;exact Zs rfl rfl
      ·intro w69 vq69 hB69 hH69;have hS69 := hS55.below hB69;refine W_move rfl rfl ?_;refine W_nil ?_;exact N_step rfl (congrArg Value.bool hb62) (Below.refl _ _)
      ·intro _ _ _ _;refine W_guard_yes rfl ?_;refine W_move rfl rfl ?_;exact Zs rfl rfl
      ·intro _ _ _ _;refine W_guard_yes rfl ?_;refine W_move rfl rfl ?_;exact Zs rfl rfl
      ·intro w72 vq72 hB72 hH72;have hS72 := hS55.below hB72;refine W_guard_yes rfl ?_;refine W_ix rfl Try.underlying49 Ty.cells57 Ty.info57 rfl rfl (he64.el hS72.agree) hp64 rfl ?_;exact Zs rfl rfl
      ·intro w73 vq73 hB73 hH73;have hS73 := hS55.below hB73;refine W_guard_yes rfl ?_;refine W_ldg 0 ((idCells x58)) rfl Ty.agg57 Ty.size57 rfl (he64.el hS73.agree) (by omega) (fun q u h => sub_at (post := []) rfl h) ?_;exact Zs rfl rfl
      ·intro w74 vq74 hB74 hH74;have hS74 := hS55.below hB74;refine W_guard_yes rfl ?_;refine W_bldg 0 ((idCells x1)) rfl Ty.agg57 Ty.size57 rfl hS74 rfl (fun q u h => sub_at (post := []) rfl h) ?_;exact Zs rfl rfl
      ·intro w75 vq75 hB75 hH75;have hS75 := hS55.below hB75;refine W_guard_yes rfl ?_;have hy76 := hr60;rw [only_t hb62] at hy76;refine W_call rfl Ty.named104 rfl (cellarerref14_before_ok hS75.agree hle59 h1 hy76) ?_;rintro v77 w77 ⟨Fr60, rfl, hT77⟩;have hS77 := hS75.lent hT77;refine W_nil ?_;exact N_step rfl rfl hT77.below0
     intro w78 vq78 hB78 hH78;have hS78 := hS55.below hB78;refine W_pick_t rfl rfl rfl ?_;refine W_nil ?_;exact N_join _ ⟨rfl, F55, (Frz.le.refl _), hS78⟩ ⟨rfl, rfl, rfl, (look_bool rfl (by first | rfl | (rw [hb62]; first | done | rfl) | simp [hb62])), trivial⟩
    ·
     apply C_draw 11 [[], [], [1], [0, 2], [3], [4], [4], [5, 6, 4], [7, 4], [4], [8, 9, 4]] [.val (.int .i64 i56), .val (v0), .val (.int .i64 (x0.length : Int)), .val (.bool (decide (i56 < (x0.length : Int)))), .val (.bool false), .val undef, .val undef, .val undef, .val undef, .val undef, .val undef] Ty.mixed rfl rfl (by kernel_rfl) (by kernel_rfl) rfl
     ·refine ⟨?_, ?_, ?_, ?_, ?_, ?_, ?_, ?_, ?_, ?_, ?_, trivial⟩
      ·intro _ _ _ _;refine W_move rfl rfl ?_;exact Zs rfl rfl
      ·intro _ _ _ _;refine W_move rfl rfl ?_;exact Zs rfl rfl
      ·intro _ _ _ _;refine W_lenv rfl Try.underlying49 rfl h0.ln ?_;exact Zs rfl rfl
      ·intro _ _ _ _;refine W_lss rfl rfl rfl ?_;exact Zs rfl rfl
      ·intro w83 vq83 hB83 hH83;have hS83 := hS55.below hB83;refine W_move rfl rfl ?_;refine W_nil ?_;exact N_step rfl (congrArg Value.bool hb62) (Below.refl _ _)
      ·intro _ _ _ _;refine W_guard_no rfl rfl rfl rfl rfl ?_;exact Zs rfl rfl
      ·intro _ _ _ _;refine W_guard_no rfl rfl rfl rfl rfl ?_;exact Zs rfl rfl
      ·intro _ _ _ _;refine W_guard_no rfl rfl rfl rfl rfl ?_;exact Zs rfl rfl
      ·intro _ _ _ _;refine W_guard_no rfl rfl rfl rfl rfl ?_;exact Zs rfl rfl
      ·intro _ _ _ _;refine W_guard_no rfl rfl rfl rfl rfl ?_;exact Zs rfl rfl
      ·intro _ _ _ _;refine W_guard_no rfl rfl rfl rfl rfl ?_;exact Zs rfl rfl
     intro w90 vq90 hB90 hH90;have hS90 := hS55.below hB90;refine W_pick_f rfl rfl rfl ?_;refine W_nil ?_;exact N_join _ ⟨rfl, F55, (Frz.le.refl _), hS90⟩ ⟨rfl, rfl, rfl, (look_bool rfl (by first | rfl | (rw [hb62]; first | done | rfl) | simp [hb62])), trivial⟩
   rintro E w61 ⟨rfl, F61, le61, hS61⟩;refine N_code ?_;refine C_cond rfl (fun hc91 => ?_) (fun hc91 => ?_)
   ·rw [if_t hc91] at H;refine C_skip ?_;refine N_code ?_;refine C_block ?_;refine C_region ?_;refine W_move rfl rfl ?_;refine W_add rfl rfl rfl rfl ?_;refine W_assign rfl rfl ?_;refine W_nil ?_;refine N_block ?_;exact N_againM (wr (i56 + 1)) _ H ⟨F61, rfl, (le55.trans le61), hS61⟩ ⟨rfl, rfl, rfl, trivial⟩
   ·rw [if_f hc91] at H;refine C_exit _ rfl ?_;exact N_join _ ⟨i56, H, ⟨F61, rfl, (le55.trans le61), hS61⟩⟩ ⟨rfl, rfl, rfl, trivial⟩
 ·rintro E w2 ⟨i3, H, F2, rfl, le2, hS2⟩;dsimp only [cellarerref14_Add.k1] at H;refine C_seq ?_;refine C_seq ?_;obtain ⟨x4, hx4, H⟩ := bd_some H;refine C_join (fun E wq => E = [(0, v0), (3, pl g1 0), (7, .int .i64 i3), (34, .bool (decide (i3 < (x0.length : Int)) && decide (x4 = x1)))] ∧ ∃ F6 : Frz, F2.le F6 ∧ St [] w F F6 [.box g1 57 (idCells x1)] wq) ?_ ?_
  ·
   rcases Bool.eq_false_or_eq_true (decide (i3 < (x0.length : Int))) with hb7 | hb7
   ·have hy8 := hx4;rw [only_t hb7] at hy8;obtain ⟨hp9, hy9⟩ := ix_some hy8;obtain ⟨cs9, hr9, he9⟩ := (h0.mono le2).at_ hy9;obtain ⟨rfl, hle5⟩ := hr9;replace he9 : Elf _ _ 32 _ _ := he9
    apply C_draw 11 [[], [], [1], [0, 2], [3], [4], [4], [5, 6, 4], [7, 4], [4], [8, 9, 4]] [.val (.int .i64 i3), .val (v0), .val (.int .i64 (x0.length : Int)), .val (.bool (decide (i3 < (x0.length : Int)))), .val (.bool true), .val (v0), .val (.int .i64 i3), .val (elp v0 (i3.toNat * 32)), .val (.agg (idCells x4).toArray), .val (.agg (idCells x1).toArray), .val (.bool (decide (x4 = x1)))] Ty.mixed rfl rfl (by kernel_rfl) (by kernel_rfl) rfl
    ·refine ⟨?_, ?_, ?_, ?_, ?_, ?_, ?_, ?_, ?_, ?_, ?_, trivial⟩
     ·intro _ _ _ _;refine W_move rfl rfl ?_;exact Zs rfl rfl
     ·intro _ _ _ _;refine W_move rfl rfl ?_;exact Zs rfl rfl
     ·intro _ _ _ _;refine W_lenv rfl Try.underlying49 rfl h0.ln ?_;exact Zs rfl rfl
     ·intro _ _ _ _;refine W_lss rfl rfl rfl ?_;exact Zs rfl rfl
     ·intro w14 vq14 hB14 hH14;have hS14 := hS2.below hB14;refine W_move rfl rfl ?_;refine W_nil ?_;exact N_step rfl (congrArg Value.bool hb7) (Below.refl _ _)
     ·intro _ _ _ _;refine W_guard_yes rfl ?_;refine W_move rfl rfl ?_;exact Zs rfl rfl
     ·intro _ _ _ _;refine W_guard_yes rfl ?_;refine W_move rfl rfl ?_;exact Zs rfl rfl
     ·intro w17 vq17 hB17 hH17;have hS17 := hS2.below hB17;refine W_guard_yes rfl ?_;refine W_ix rfl Try.underlying49 Ty.cells57 Ty.info57 rfl rfl (he9.el hS17.agree) hp9 rfl ?_;exact Zs rfl rfl
     ·intro w18 vq18 hB18 hH18;have hS18 := hS2.below hB18;refine W_guard_yes rfl ?_;refine W_ldg 0 ((idCells x4)) rfl Ty.agg57 Ty.size57 rfl (he9.el hS18.agree) (by omega) (fun q u h => sub_at (post := []) rfl h) ?_;exact Zs rfl rfl
     ·intro w19 vq19 hB19 hH19;have hS19 := hS2.below hB19;refine W_guard_yes rfl ?_;refine W_bldg 0 ((idCells x1)) rfl Ty.agg57 Ty.size57 rfl hS19 rfl (fun q u h => sub_at (post := []) rfl h) ?_;exact Zs rfl rfl
     ·intro _ _ _ _;refine W_guard_yes rfl ?_;refine W_eqlI rfl Try.underlying57 Try.underlying5 Ty.cells5 Ty.info5 (by kernel_rfl) rfl rfl hle5 h1 ?_;exact Zs rfl rfl
    intro w21 vq21 hB21 hH21;have hS21 := hS2.below hB21;refine W_pick_t rfl rfl rfl ?_;refine W_nil ?_;exact N_join _ ⟨rfl, F2, (Frz.le.refl _), hS21⟩ ⟨rfl, rfl, rfl, (look_bool rfl (by first | rfl | (rw [hb7]; first | done | rfl) | simp [hb7])), trivial⟩
   ·
    apply C_draw 11 [[], [], [1], [0, 2], [3], [4], [4], [5, 6, 4], [7, 4], [4], [8, 9, 4]] [.val (.int .i64 i3), .val (v0), .val (.int .i64 (x0.length : Int)), .val (.bool (decide (i3 < (x0.length : Int)))), .val (.bool false), .val undef, .val undef, .val undef, .val undef, .val undef, .val undef] Ty.mixed rfl rfl (by kernel_rfl) (by kernel_rfl) rfl
    ·refine ⟨?_, ?_, ?_, ?_, ?_, ?_, ?_, ?_, ?_, ?_, ?_, trivial⟩
     ·intro _ _ _ _;refine W_move rfl rfl ?_;exact Zs rfl rfl
     ·intro _ _ _ _;refine W_move rfl rfl ?_;exact Zs rfl rfl
     ·intro _ _ _ _;refine W_lenv rfl Try.underlying49 rfl h0.ln ?_;exact Zs rfl rfl
     ·intro _ _ _ _;refine W_lss rfl rfl rfl ?_;exact Zs rfl rfl
     ·intro w26 vq26 hB26 hH26;have hS26 := hS2.below hB26;refine W_move rfl rfl ?_;refine W_nil ?_;exact N_step rfl (congrArg Value.bool hb7) (Below.refl _ _)
     ·intro _ _ _ _;refine W_guard_no rfl rfl rfl rfl rfl ?_;exact Zs rfl rfl
     ·intro _ _ _ _;refine W_guard_no rfl rfl rfl rfl rfl ?_;exact Zs rfl rfl
     ·intro _ _ _ _;refine W_guard_no rfl rfl rfl rfl rfl ?_;exact Zs rfl rfl
     ·intro _ _ _ _;refine W_guard_no rfl rfl rfl rfl rfl ?_;exact Zs rfl rfl
     ·intro _ _ _ _;refine W_guard_no rfl rfl rfl rfl rfl ?_;exact Zs rfl rfl
     ·intro _ _ _ _;refine W_guard_no rfl rfl rfl rfl rfl ?_;exact Zs rfl rfl
    intro w33 vq33 hB33 hH33;have hS33 := hS2.below hB33;refine W_pick_f rfl rfl rfl ?_;refine W_nil ?_;exact N_join _ ⟨rfl, F2, (Frz.le.refl _), hS33⟩ ⟨rfl, rfl, rfl, (look_bool rfl (by first | rfl | (rw [hb7]; first | done | rfl) | simp [hb7])), trivial⟩
  rintro E w6 ⟨rfl, F6, le6, hS6⟩;refine N_code ?_;refine C_cond rfl (fun hc34 => ?_) (fun hc34 => ?_)
  ·rw [if_t hc34] at H;refine C_seq ?_;refine C_region ?_;refine W_move rfl rfl ?_;refine W_move rfl rfl ?_;refine W_assign rfl rfl ?_;refine W_assign rfl rfl ?_;refine W_assign rfl rfl ?_;refine W_nil ?_;refine N_code ?_;obtain rfl := Option.some.inj H;refine C_ret rfl rfl ?_;exact ⟨F6, v0, rfl, (h0.mono (le2.trans le6)), hS6.pick [] (by decide)⟩
  ·rw [if_f hc34] at H;refine C_skip ?_;refine N_code ?_;refine C_seq ?_;refine C_region ?_;refine W_assign rfl rfl ?_;refine W_nil ?_;refine N_code ?_;refine C_seq ?_;obtain ⟨l35, hl35, H⟩ := bd_some H;obtain ⟨l37, hl37, H⟩ := bd_some H;obtain ⟨l40, hl40, H⟩ := bd_some H
   apply C_draw 7 [[], [], [], [1, 2], [0, 3], [], [5]] [.val (.slice none 0 0), .val (v0), .val (.int .i64 i3), .pred (fun v wz => SlF tId F6 v l35) stable_slf, .pred (fun v wz => Ob.ok F6 wz (.row tId 57 v l37) ∧ ∀ g, v.ownBlock = some g → w6.heap.size ≤ g) stable_row, .val (.agg (idCells x1).toArray), .pred (fun v wz => Src tId F6 wz v [x1]) stable_src] Ty.mixed rfl rfl (by kernel_rfl) (by kernel_rfl) rfl
   ·refine ⟨?_, ?_, ?_, ?_, ?_, ?_, ?_, trivial⟩
    ·intro _ _ _ _;refine W_move rfl rfl ?_;exact Zs rfl rfl
    ·intro _ _ _ _;refine W_move rfl rfl ?_;exact Zs rfl rfl
    ·intro _ _ _ _;refine W_move rfl rfl ?_;exact Zs rfl rfl
    ·intro w45 vq45 hB45 hH45;have hS45 := hS6.below hB45;refine W_cutM 0 i3 rfl Try.underlying49 Ty.cells57 Ty.info57 rfl rfl ⟨_, rfl⟩ (h0.mono (le2.trans le6)) hl35 ?_;intro q36 hv36;refine W_nil ?_;exact N_step rfl hv36 (Below.refl _ _)
    ·intro w46 vq46 hB46 hH46;obtain ⟨_, hp46_3, _⟩ := hH46;have hS46 := hS6.below hB46;refine W_app0 (t := tId) rfl Try.underlying49 Ty.row57 rfl rfl rfl rfl rfl hS46.agree (hp46_3.src hS46.agree) hl37 ?_;intro v38 w38 hB38 hO38 hg38;refine W_nil ?_;exact N_step rfl ⟨hO38, fun g hg => Nat.le_trans hB46.size (hg38 g hg)⟩ hB38
    ·intro w47 vq47 hB47 hH47;have hS47 := hS6.below hB47;refine W_bldg 0 ((idCells x1)) rfl Ty.agg57 Ty.size57 rfl hS47 rfl (fun q u h => sub_at (post := []) rfl h) ?_;exact Zs rfl rfl
    ·intro w48 vq48 hB48 hH48;have hS48 := hS6.below hB48;refine W_bs0 (t := tId) [(idCells x1)] [x1] rfl Try.underlying49 Ty.cells57 rfl rfl Ty.zero57 rfl rfl ⟨⟨rfl, h1⟩, trivial⟩ rfl rfl hS48.agree ?_;intro u39 w39 hB39 hs39;refine W_nil ?_;exact N_step rfl hs39 hB39
   intro w49 vq49 hB49 hH49;obtain ⟨_, _, _, hp49_3, hp49_4, _, hp49_6, _⟩ := hH49;have hS49 := hS6.below hB49;have hS49 := hS6.freshR hB49 hp49_4.1 hp49_4.2;refine W_appM 0 rfl Try.underlying49 Ty.row57 rfl rfl rfl rfl rfl hS49 rfl hp49_6 hl40 ?_;intro v41 w41 hS41;refine W_assign rfl rfl ?_;refine W_nil ?_;refine N_code ?_;refine C_seq ?_;obtain ⟨l50, hl50, H⟩ := bd_some H;obtain ⟨l52, hl52, H⟩ := bd_some H;refine C_region ?_;refine W_move rfl rfl ?_;refine W_move rfl rfl ?_;refine W_move rfl rfl ?_;refine W_cutM i3 (x0.length : Int) rfl Try.underlying49 Ty.cells57 Ty.info57 rfl ⟨_, rfl⟩ rfl (h0.mono (le2.trans le6)) hl50 ?_;intro q51 hv51;refine W_appM 0 rfl Try.underlying49 Ty.row57 rfl rfl rfl rfl rfl hS41 rfl (hv51.src hS41.agree) hl52 ?_;intro v53 w53 hS53;refine W_move rfl rfl ?_;refine W_assign rfl rfl ?_;refine W_assign rfl rfl ?_;refine W_assign rfl rfl ?_;refine W_nil ?_;refine N_code ?_;obtain ⟨F54, le54, hf54, hS54⟩ := hS53.freeze 0 [1] rfl (by decide) (by decide);obtain rfl := Option.some.inj H;refine C_ret rfl rfl ?_;exact ⟨F54, v53, rfl, hf54, hS54.pick [] (by decide)⟩

def cellarerref14_Ids.k1 (l3 : List (List UInt8)) : Option (List (List UInt8)) :=
  some l3


def cellarerref14_Ids.k3 (i10 : Int) (rec11 : ((List (List UInt8)) × Int) → Option (List (List UInt8))) (l14 : List (List UInt8)) : Option (List (List UInt8)) :=
  rec11 (l14, wr (i10 + 1))


def cellarerref14_Ids.l4 (x0 : Manifest) (i10 : Int) (rec11 : ((List (List UInt8)) × Int) → Option (List (List UInt8))) (rec22 : ((List (List UInt8)) × Int) → Option (List (List UInt8))) : ((List (List UInt8)) × Int) → Option (List (List UInt8))
  | (l18, i21) =>
    bd (ix x0.parts i10) fun x23 =>
    if decide (i21 < (x23.ids.length : Int)) then
      bd (ix x0.parts i10) fun x27 =>
      bd (ix x27.ids i21) fun x29 =>
      bd (cellarerref14_Add l18 x29) fun r31 =>
      rec22 (r31.1, wr (i21 + 1))
    else
      cellarerref14_Ids.k3 i10 rec11 l18


def cellarerref14_Ids.l2 (x0 : Manifest) (rec11 : ((List (List UInt8)) × Int) → Option (List (List UInt8))) : ((List (List UInt8)) × Int) → Option (List (List UInt8))
  | (l7, i10) =>
    if decide (i10 < (x0.parts.length : Int)) then
      loop (cellarerref14_Ids.l4 x0 i10 rec11) (l7, 0)
    else
      cellarerref14_Ids.k1 l7

def cellarerref14_Ids (x0 : Manifest) : Option (List (List UInt8)) :=
  loop (cellarerref14_Ids.l2 x0) ([], 0)

theorem cellarerref14_Ids_ok {F : Frz} {w : World} {x0 : Manifest} {r : (List (List UInt8))} {v0_0 : Value} (hA : Agree F w.heap) (h0_0 : SlF Part.t F v0_0 x0.parts) (H : cellarerref14_Ids x0 = some r) : Ret Try.prog 51 #[.agg (Manifest.cells x0 v0_0).toArray] w fun v w' => ∃ (F' : Frz) (q0 : Value), v = q0 ∧ SlF tId F' q0 (r) ∧ St [] w F F' [] w' := by
 refine Ret_of (args := [.agg (Manifest.cells x0 v0_0).toArray]) Try.func51 rfl rfl ?_;change C _ _ _ _ [(0, .agg (Manifest.cells x0 v0_0).toArray)] _;have hS := St.entry hA;dsimp only [cellarerref14_Ids] at H;refine C_seq ?_;refine C_region ?_;refine W_bx (cs := [strV x0.name, v0_0]) rfl rfl rfl hS ?_;intro g1 w1 hS1;refine W_assign rfl rfl ?_;refine W_nil ?_;refine N_code ?_;refine C_seq ?_;refine C_region ?_;refine W_assign rfl rfl ?_;refine W_nil ?_;refine N_code ?_;refine C_seq_join (fun E wq => ∃ l3 : List (List UInt8), cellarerref14_Ids.k1 l3 = some r ∧ ∃ (F2 : Frz) (u4 : Value), E = [(3, u4)] ∧ F.le F2 ∧ SlF tId F2 u4 l3 ∧ St [] w F F2 [] wq) ?_ ?_
 ·refine C_seq ?_;refine C_region ?_;refine W_assign rfl rfl ?_;refine W_nil ?_;refine N_code ?_;refine C_block ?_;refine C_loopM (fun (s : (List (List UInt8)) × Int) E wq => ∃ (F6 : Frz) (u8 : Value), E = [(1, pl g1 0), (3, u8), (4, .int .i64 s.2)] ∧ F.le F6 ∧ SlF tId F6 u8 s.1 ∧ St [] w F F6 [.box g1 45 [strV x0.name, v0_0]] wq) H ?_ ?_
  ·exact ⟨_, ⟨F, .slice none 0 0, rfl, (Frz.le.refl _), (SlF.nil _), hS1⟩, ⟨rfl, rfl, rfl, trivial⟩⟩
  ·rintro rec11 ⟨l7, i10⟩ E w6 hI H;(try dsimp only at hI);obtain ⟨F6, u8, rfl, le6, hx9, hS6⟩ := hI;dsimp only [cellarerref14_Ids.l2] at H;refine C_seq ?_;refine C_seq ?_;refine C_region ?_;refine W_move rfl rfl ?_;refine W_field_pl 1 rfl Ty.field45_1 rfl ?_;refine W_bld1 0 rfl Ty.cell43 rfl hS6 rfl rfl ?_;refine W_lenv rfl Try.underlying43 rfl h0_0.ln ?_;refine W_lss rfl rfl rfl ?_;refine W_nil ?_;refine N_code ?_;refine C_cond rfl (fun hc12 => ?_) (fun hc12 => ?_)
   ·rw [if_t hc12] at H;refine C_skip ?_;refine N_code ?_;refine C_seq_join (fun E wq => ∃ l14 : List (List UInt8), cellarerref14_Ids.k3 i10 rec11 l14 = some r ∧ ∃ (F13 : Frz) (u15 : Value), E = [(1, pl g1 0), (3, u15), (4, .int .i64 i10)] ∧ F6.le F13 ∧ SlF tId F13 u15 l14 ∧ St [] w F F13 [.box g1 45 [strV x0.name, v0_0]] wq) ?_ ?_
    ·refine C_block ?_;refine C_seq ?_;refine C_region ?_;refine W_assign rfl rfl ?_;refine W_nil ?_;refine N_code ?_;refine C_block ?_;refine C_loopM (fun (s : (List (List UInt8)) × Int) E wq => ∃ (F17 : Frz) (u19 : Value), E = [(1, pl g1 0), (3, u19), (4, .int .i64 i10), (5, .int .i64 s.2)] ∧ F6.le F17 ∧ SlF tId F17 u19 s.1 ∧ St [] w F F17 [.box g1 45 [strV x0.name, v0_0]] wq) H ?_ ?_
     ·exact ⟨_, ⟨F6, u8, rfl, (Frz.le.refl _), hx9, hS6⟩, ⟨rfl, rfl, rfl, rfl, trivial⟩⟩
     ·rintro rec22 ⟨l18, i21⟩ E w17 hI H;(try dsimp only at hI);obtain ⟨F17, u19, rfl, le17, hx20, hS17⟩ := hI;dsimp only [cellarerref14_Ids.l4] at H;refine C_seq ?_;refine C_seq ?_;obtain ⟨x23, hx23, H⟩ := bd_some H;refine C_region ?_;refine W_move rfl rfl ?_;refine W_field_pl 1 rfl Ty.field45_1 rfl ?_;refine W_bld1 0 rfl Ty.cell43 rfl hS17 rfl rfl ?_;refine W_move rfl rfl ?_;obtain ⟨hp25, hy25⟩ := ix_some hx23;obtain ⟨cs25, hr25, he25⟩ := (h0_0.mono (le6.trans le17)).at_ hy25;obtain ⟨ue24_0, rfl, hue24_0⟩ := hr25;replace he25 : Elf _ _ 3 _ _ := he25;refine W_ix rfl Try.underlying43 Ty.cells51 Ty.info51 rfl rfl (he25.el hS17.agree) hp25 rfl ?_;refine W_fld 2 rfl Ty.field51_2 rfl (he25.el hS17.agree) ?_;refine W_ld1 2 rfl Ty.cell49 rfl (he25.el hS17.agree) (by omega) rfl ?_;refine W_lenv rfl Try.underlying49 rfl hue24_0.ln ?_;refine W_lss rfl rfl rfl ?_;refine W_nil ?_;refine N_code ?_;refine C_cond rfl (fun hc26 => ?_) (fun hc26 => ?_)
      ·rw [if_t hc26] at H;refine C_skip ?_;refine N_code ?_;refine C_seq ?_;refine C_block ?_;obtain ⟨x27, hx27, H⟩ := bd_some H;obtain ⟨x29, hx29, H⟩ := bd_some H;obtain ⟨r31, hr31, H⟩ := bd_some H;refine C_region ?_;refine W_move rfl rfl ?_;refine W_field_pl 1 rfl Ty.field45_1 rfl ?_;refine W_bld1 0 rfl Ty.cell43 rfl hS17 rfl rfl ?_;refine W_move rfl rfl ?_;obtain ⟨hp32, hy32⟩ := ix_some hx27;obtain ⟨cs32, hr32, he32⟩ := (h0_0.mono (le6.trans le17)).at_ hy32;obtain ⟨ue28_0, rfl, hue28_0⟩ := hr32;replace he32 : Elf _ _ 3 _ _ := he32;refine W_ix rfl Try.underlying43 Ty.cells51 Ty.info51 rfl rfl (he32.el hS17.agree) hp32 rfl ?_;refine W_fld 2 rfl Ty.field51_2 rfl (he32.el hS17.agree) ?_;refine W_ld1 2 rfl Ty.cell49 rfl (he32.el hS17.agree) (by omega) rfl ?_;refine W_move rfl rfl ?_;obtain ⟨hp33, hy33⟩ := ix_some hx29;obtain ⟨cs33, hr33, he33⟩ := hue28_0.at_ hy33;obtain ⟨rfl, hle30⟩ := hr33;replace he33 : Elf _ _ 32 _ _ := he33;refine W_ix rfl Try.underlying49 Ty.cells57 Ty.info57 rfl rfl (he33.el hS17.agree) hp33 rfl ?_;refine W_ldg 0 ((idCells x29)) rfl Ty.agg57 Ty.size57 rfl (he33.el hS17.agree) (by omega) (fun q u h => sub_at (post := []) rfl h) ?_;refine W_call rfl Ty.named85 rfl (cellarerref14_Add_ok hS17.agree hx20 hle30 hr31) ?_;rintro v34 w34 ⟨Fr31, ur31_0, rfl, hfr31_0, hT34⟩;have hS34 := hS17.call hT34;have ler31 := hT34.ext;refine W_move rfl rfl ?_;refine W_extract rfl rfl rfl ?_;refine W_extract rfl rfl rfl ?_;refine W_extract rfl rfl rfl ?_;refine W_assign rfl rfl ?_;refine W_nil ?_;refine N_block ?_;refine N_code ?_;refine C_region ?_;refine W_move rfl rfl ?_;refine W_add rfl rfl rfl rfl ?_;refine W_assign rfl rfl ?_;refine W_nil ?_;exact N_againM (r31.1, wr (i21 + 1)) _ H ⟨Fr31, ur31_0, rfl, (le17.trans ler31), hfr31_0, hS34⟩ ⟨rfl, rfl, rfl, rfl, trivial⟩
      ·rw [if_f hc26] at H;refine C_exit _ rfl ?_;refine N_block ?_;exact N_join _ ⟨l18, H, ⟨F17, u19, rfl, le17, hx20, hS17⟩⟩ ⟨rfl, rfl, rfl, trivial⟩
    ·rintro E w13 ⟨l14, H, F13, u15, rfl, le13, hx16, hS13⟩;dsimp only [cellarerref14_Ids.k3] at H;refine C_region ?_;refine W_move rfl rfl ?_;refine W_add rfl rfl rfl rfl ?_;refine W_assign rfl rfl ?_;refine W_nil ?_;exact N_againM (l14, wr (i10 + 1)) _ H ⟨F13, u15, rfl, (le6.trans le13), hx16, hS13⟩ ⟨rfl, rfl, rfl, trivial⟩
   ·rw [if_f hc12] at H;refine C_exit _ rfl ?_;exact N_join _ ⟨l7, H, ⟨F6, u8, rfl, le6, hx9, hS6.pick [] (by decide)⟩⟩ ⟨rfl, trivial⟩
 ·rintro E w2 ⟨l3, H, F2, u4, rfl, le2, hx5, hS2⟩;dsimp only [cellarerref14_Ids.k1] at H;refine C_seq ?_;refine C_region ?_;refine W_move rfl rfl ?_;refine W_assign rfl rfl ?_;refine W_nil ?_;refine N_code ?_;obtain rfl := Option.some.inj H;refine C_ret rfl rfl ?_;exact ⟨F2, u4, rfl, hx5, hS2⟩

def cellarerref14_be.k1 (l2 : List UInt8) : Option (List UInt8) :=
  some l2


def cellarerref14_be.l2 (x0 : Int) (rec10 : ((List UInt8) × Int) → Option (List UInt8)) : ((List UInt8) × Int) → Option (List UInt8)
  | (l6, i9) =>
    if decide (0 ≤ i9) then
      bd (shrI x0 (wu (wr (8 * i9)))) fun x12 =>
      bd (app (α := UInt8) l6 [(toB8 x12)]) fun l14 =>
      rec10 (l14, wr (i9 - 1))
    else
      cellarerref14_be.k1 l6

def cellarerref14_be (x0 : Int) (x1 : Int) : Option (List UInt8) :=
  loop (cellarerref14_be.l2 x0) ([], wr (x1 - 1))

theorem cellarerref14_be_ok {F : Frz} {w : World} {x0 : Int} {x1 : Int} {r : (List UInt8)} (hA : Agree F w.heap) (H : cellarerref14_be x0 x1 = some r) : Ret Try.prog 87 #[.int .i64 x0, .int .i64 x1] w fun v w' => ∃ (F' : Frz) (q0 : Value), v = q0 ∧ St [] w F F' [.row tB 5 q0 (r)] w' := by
 refine Ret_of (args := [.int .i64 x0, .int .i64 x1]) Try.func87 rfl rfl ?_;change C _ _ _ _ [(0, .int .i64 x0), (1, .int .i64 x1)] _;have hS := St.entry hA;dsimp only [cellarerref14_be] at H;refine C_seq ?_;refine C_region ?_;refine W_assign rfl rfl ?_;refine W_nil ?_;refine N_code ?_;refine C_seq ?_;refine C_region ?_;refine W_assign rfl rfl ?_;refine W_nil ?_;refine N_code ?_;refine C_seq_join (fun E wq => ∃ l2 : List UInt8, cellarerref14_be.k1 l2 = some r ∧ ∃ (F1 : Frz) (u3 : Value), E = [(5, u3)] ∧ F.le F1 ∧ St [] w F F1 [.row tB 5 u3 l2] wq) ?_ ?_
 ·refine C_seq ?_;refine C_region ?_;refine W_move rfl rfl ?_;refine W_subi rfl rfl rfl rfl ?_;refine W_assign rfl rfl ?_;refine W_nil ?_;refine N_code ?_;refine C_block ?_;refine C_loopM (fun (s : (List UInt8) × Int) E wq => ∃ (F5 : Frz) (u7 : Value), E = [(0, .int .i64 x0), (5, u7), (6, .int .i64 s.2)] ∧ F.le F5 ∧ St [] w F F5 [.row tB 5 u7 s.1] wq) H ?_ ?_
  ·have hS18 := hS.nilRow tB 5;exact ⟨_, ⟨F, (.slice none 0 0), rfl, (Frz.le.refl _), hS18⟩, ⟨rfl, rfl, rfl, trivial⟩⟩
  ·rintro rec10 ⟨l6, i9⟩ E w5 hI H;(try dsimp only at hI);obtain ⟨F5, u7, rfl, le5, hS5⟩ := hI;dsimp only [cellarerref14_be.l2] at H;refine C_seq ?_;refine C_seq ?_;refine C_region ?_;refine W_move rfl rfl ?_;refine W_geq rfl rfl rfl ?_;refine W_nil ?_;refine N_code ?_;refine C_cond rfl (fun hc11 => ?_) (fun hc11 => ?_)
   ·rw [if_t hc11] at H;refine C_skip ?_;refine N_code ?_;refine C_seq ?_;refine C_block ?_;obtain ⟨x12, hx12, H⟩ := bd_some H;obtain ⟨l14, hl14, H⟩ := bd_some H;refine C_region ?_;refine W_move rfl rfl ?_;refine W_move rfl rfl ?_;refine W_move rfl rfl ?_;refine W_mul rfl rfl rfl rfl ?_;refine W_conv rfl rfl Ty.some3 Try.underlying24 (rfl) ?_;obtain ⟨hz16, hv16, hw16⟩ := shrI_some hx12;refine W_shr rfl rfl rfl hz16 hv16 hw16.symm ?_;refine W_conv rfl rfl Ty.some3 Try.underlying5 (i8_of _) ?_;refine W_bs (t := tB) [[.int .u8 ((toB8 x12).toNat : Int)]] [(toB8 x12)] rfl Try.underlying25 Ty.cells5 rfl rfl Ty.zero5 rfl rfl ⟨rfl, trivial⟩ rfl rfl hS5 ?_;intro u13 w13 hS13;refine W_appM 1 rfl Try.underlying25 Ty.row5 rfl rfl rfl rfl rfl hS13 rfl (hS13.rowSrc (j := 0) rfl) hl14 ?_;intro v15 w15 hS15;refine W_assign rfl rfl ?_;refine W_nil ?_;refine N_block ?_;refine N_code ?_;refine C_region ?_;refine W_move rfl rfl ?_;refine W_subi rfl rfl rfl rfl ?_;refine W_assign rfl rfl ?_;refine W_nil ?_;exact N_againM (l14, wr (i9 - 1)) _ H ⟨F5, v15, rfl, le5, hS15.pick [1] (by decide)⟩ ⟨rfl, rfl, rfl, trivial⟩
   ·rw [if_f hc11] at H;refine C_exit _ rfl ?_;exact N_join _ ⟨l6, H, ⟨F5, u7, rfl, le5, hS5⟩⟩ ⟨rfl, trivial⟩
 ·rintro E w1 ⟨l2, H, F1, u3, rfl, le1, hS1⟩;dsimp only [cellarerref14_be.k1] at H;refine C_seq ?_;refine C_region ?_;refine W_move rfl rfl ?_;refine W_assign rfl rfl ?_;refine W_nil ?_;refine N_code ?_;obtain rfl := Option.some.inj H;refine C_ret rfl rfl ?_;exact ⟨F1, u3, rfl, hS1⟩

def cellarerref14_ManifestBytes.k1 (l9 : List UInt8) : Option (List UInt8) :=
  some l9


def cellarerref14_ManifestBytes.k3 (i12 : Int) (rec15 : (Int × (List UInt8)) → Option (List UInt8)) (l18 : List UInt8) : Option (List UInt8) :=
  rec15 (wr (i12 + 1), l18)


def cellarerref14_ManifestBytes.l4 (i12 : Int) (rec15 : (Int × (List UInt8)) → Option (List UInt8)) (x20 : Part) (rec235 : (Int × (List UInt8)) → Option (List UInt8)) : (Int × (List UInt8)) → Option (List UInt8)
  | (i232, l233) =>
    if decide (i232 < (x20.ids.length : Int)) then
      bd (ix x20.ids i232) fun x237 =>
      bd (app (α := UInt8) l233 x237) fun l240 =>
      rec235 (wr (i232 + 1), l240)
    else
      cellarerref14_ManifestBytes.k3 i12 rec15 l233


def cellarerref14_ManifestBytes.l2 (x0 : Manifest) (rec15 : (Int × (List UInt8)) → Option (List UInt8)) : (Int × (List UInt8)) → Option (List UInt8)
  | (i12, l13) =>
    if decide (i12 < (x0.parts.length : Int)) then
      bd (ix x0.parts i12) fun x20 =>
      bd (app (α := UInt8) l13 [(toB8 (x20.path.length : Int))]) fun l26 =>
      bd (app (α := UInt8) l26 x20.path) fun l28 =>
      bd (cellarerref14_be x20.size 2) fun r89 =>
      bd (app (α := UInt8) l28 r89) fun l90 =>
      bd (app (α := UInt8) l90 [(toB8 (x20.ids.length : Int))]) fun l93 =>
      loop (cellarerref14_ManifestBytes.l4 i12 rec15 x20) (0, l93)
    else
      cellarerref14_ManifestBytes.k1 l13

def cellarerref14_ManifestBytes (x0 : Manifest) : Option (List UInt8) :=
  bd (app (α := UInt8) [(toB8 (x0.name.length : Int))] x0.name) fun l3 =>
  bd (app (α := UInt8) l3 [(toB8 (x0.parts.length : Int))]) fun l6 =>
  loop (cellarerref14_ManifestBytes.l2 x0) (0, l6)

set_option maxHeartbeats 2000000 in
theorem cellarerref14_ManifestBytes_ok {F : Frz} {w : World} {x0 : Manifest} {r : (List UInt8)} {v0_0 : Value} (hA : Agree F w.heap) (h0_0 : SlF Part.t F v0_0 x0.parts) (H : cellarerref14_ManifestBytes x0 = some r) : Ret Try.prog 52 #[.agg (Manifest.cells x0 v0_0).toArray] w fun v w' => ∃ (F' : Frz) (q0 : Value), v = q0 ∧ St [] w F F' [.row tB 5 q0 (r)] w' := by
 refine Ret_of (args := [.agg (Manifest.cells x0 v0_0).toArray]) Try.func52 rfl rfl ?_;change C _ _ _ _ [(0, .agg (Manifest.cells x0 v0_0).toArray)] _;have hS := St.entry hA;dsimp only [cellarerref14_ManifestBytes] at H;refine C_seq ?_;refine C_region ?_;refine W_bx (cs := [strV x0.name, v0_0]) rfl rfl rfl hS ?_;intro g1 w1 hS1;refine W_assign rfl rfl ?_;refine W_nil ?_;refine N_code ?_;refine C_seq ?_;obtain ⟨l3, hl3, H⟩ := bd_some H;refine C_region ?_;refine W_field_pl 0 rfl Ty.field45_0 rfl ?_;refine W_bld1 0 rfl Ty.cell9 rfl hS1 rfl rfl ?_;refine W_lenS rfl Try.underlying9 rfl ?_;refine W_conv rfl rfl Ty.some3 Try.underlying5 (i8_of _) ?_;refine W_bs (t := tB) [[.int .u8 ((toB8 (x0.name.length : Int)).toNat : Int)]] [(toB8 (x0.name.length : Int))] rfl Try.underlying25 Ty.cells5 rfl rfl Ty.zero5 rfl rfl ⟨rfl, trivial⟩ rfl rfl hS1 ?_;intro u2 w2 hS2;refine W_field_pl 0 rfl Ty.field45_0 rfl ?_;refine W_bld1 1 rfl Ty.cell9 rfl hS2 rfl rfl ?_;refine W_appS 0 rfl Try.underlying25 Try.underlying9 Ty.row5 rfl rfl rfl rfl hS2 rfl hl3 ?_;intro v4 w4 hS4;refine W_assign rfl rfl ?_;refine W_nil ?_;refine N_code ?_;refine C_seq ?_;obtain ⟨l6, hl6, H⟩ := bd_some H;refine C_region ?_;refine W_move rfl rfl ?_;refine W_field_pl 1 rfl Ty.field45_1 rfl ?_;refine W_bld1 1 rfl Ty.cell43 rfl hS4 rfl rfl ?_;refine W_lenv rfl Try.underlying43 rfl h0_0.ln ?_;refine W_conv rfl rfl Ty.some3 Try.underlying5 (i8_of _) ?_;refine W_bs (t := tB) [[.int .u8 ((toB8 (x0.parts.length : Int)).toNat : Int)]] [(toB8 (x0.parts.length : Int))] rfl Try.underlying25 Ty.cells5 rfl rfl Ty.zero5 rfl rfl ⟨rfl, trivial⟩ rfl rfl hS4 ?_;intro u5 w5 hS5;refine W_appM 1 rfl Try.underlying25 Ty.row5 rfl rfl rfl rfl rfl hS5 rfl (hS5.rowSrc (j := 0) rfl) hl6 ?_;intro v7 w7 hS7;refine W_assign rfl rfl ?_;refine W_nil ?_;refine N_code ?_;refine C_seq_join (fun E wq => ∃ l9 : List UInt8, cellarerref14_ManifestBytes.k1 l9 = some r ∧ ∃ (F8 : Frz) (u10 : Value), E = [(3, u10)] ∧ F.le F8 ∧ St [] w F F8 [.row tB 5 u10 l9] wq) ?_ ?_
 ·refine C_seq ?_;refine C_region ?_;refine W_assign rfl rfl ?_;refine W_nil ?_;refine N_code ?_;refine C_block ?_;refine C_loopM (fun (s : Int × (List UInt8)) E wq => ∃ (F11 : Frz) (u14 : Value), E = [(1, pl g1 0), (3, u14), (4, .int .i64 s.1)] ∧ F.le F11 ∧ St [] w F F11 [.row tB 5 u14 s.2, .box g1 45 [strV x0.name, v0_0]] wq) H ?_ ?_
  ·exact ⟨_, ⟨F, v7, rfl, (Frz.le.refl _), hS7.pick [1, 2] (by decide)⟩, ⟨rfl, rfl, rfl, trivial⟩⟩
  ·rintro rec15 ⟨i12, l13⟩ E w11 hI H;(try dsimp only at hI);obtain ⟨F11, u14, rfl, le11, hS11⟩ := hI;dsimp only [cellarerref14_ManifestBytes.l2] at H;refine C_seq ?_;refine C_seq ?_;refine C_region ?_;refine W_move rfl rfl ?_;refine W_field_pl 1 rfl Ty.field45_1 rfl ?_;refine W_bld1 1 rfl Ty.cell43 rfl hS11 rfl rfl ?_;refine W_lenv rfl Try.underlying43 rfl h0_0.ln ?_;refine W_lss rfl rfl rfl ?_;refine W_nil ?_;refine N_code ?_;refine C_cond rfl (fun hc16 => ?_) (fun hc16 => ?_)
   ·rw [if_t hc16] at H;refine C_skip ?_;refine N_code ?_;refine C_seq_join (fun E wq => ∃ l18 : List UInt8, cellarerref14_ManifestBytes.k3 i12 rec15 l18 = some r ∧ ∃ (F17 : Frz) (u19 : Value), E = [(1, pl g1 0), (3, u19), (4, .int .i64 i12)] ∧ F11.le F17 ∧ St [] w F F17 [.row tB 5 u19 l18, .box g1 45 [strV x0.name, v0_0]] wq) ?_ ?_
    ·refine C_block ?_;refine C_seq ?_;obtain ⟨x20, hx20, H⟩ := bd_some H;refine C_region ?_;refine W_field_pl 1 rfl Ty.field45_1 rfl ?_;refine W_bld1 1 rfl Ty.cell43 rfl hS11 rfl rfl ?_;refine W_move rfl rfl ?_;obtain ⟨hp23, hy23⟩ := ix_some hx20;obtain ⟨cs23, hr23, he23⟩ := (h0_0.mono le11).at_ hy23;obtain ⟨ue21_0, rfl, hue21_0⟩ := hr23;replace he23 : Elf _ _ 3 _ _ := he23;refine W_ix rfl Try.underlying43 Ty.cells51 Ty.info51 rfl rfl (he23.el hS11.agree) hp23 rfl ?_;refine W_ldg 0 ((Part.cells x20 ue21_0)) rfl Ty.agg51 Ty.size51 rfl (he23.el hS11.agree) (by omega) (fun q u h => sub_at (post := []) rfl h) ?_;refine W_alc (cs := [strV [], .int .i64 0, .slice none 0 0]) rfl Ty.zero51 rfl hS11 ?_;intro g22 w22 hS22;refine W_bst (c := [strV x20.path, .int .i64 x20.size, ue21_0]) 0 ([strV x20.path, .int .i64 x20.size, ue21_0]) rfl rfl hS22 rfl rfl Ty.size51 (fun y hy => Part.t.one (F := F11) (x := x20) ⟨ue21_0, rfl, hue21_0⟩ y hy) (Nat.le_of_ble_eq_true rfl) rfl ?_;intro w24 hS24;refine W_nil ?_;refine N_code ?_;refine C_seq ?_;obtain ⟨l26, hl26, H⟩ := bd_some H;obtain ⟨l28, hl28, H⟩ := bd_some H
     apply C_drawJ (fun D vs wz => ∀ (b0 b5 b6 : Bool), D 0 = b0 → D 5 = b5 → D 6 = b6 → match b0, b5, b6 with | false, false, false => ∃ FJ : Frz, F11.le FJ ∧ St [] w F FJ [.box g22 51 [strV x20.path, .int .i64 x20.size, ue21_0], .row tB 5 u14 l13, .box g1 45 [strV x0.name, v0_0]] wz | true, false, false => ∃ FJ : Frz, vs 0 = u14 ∧ F11.le FJ ∧ St [] w F FJ [.box g22 51 [strV x20.path, .int .i64 x20.size, ue21_0], .row tB 5 u14 l13, .box g1 45 [strV x0.name, v0_0]] wz | false, true, false => ∃ FJ : Frz, ∃ u25 : Value, vs 5 = u25 ∧ F11.le FJ ∧ St [] w F FJ [.row tB 5 u25 [(toB8 (x20.path.length : Int))], .box g22 51 [strV x20.path, .int .i64 x20.size, ue21_0], .row tB 5 u14 l13, .box g1 45 [strV x0.name, v0_0]] wz | true, true, false => ∃ FJ : Frz, ∃ u25 : Value, vs 0 = u14 ∧ vs 5 = u25 ∧ F11.le FJ ∧ St [] w F FJ [.row tB 5 u25 [(toB8 (x20.path.length : Int))], .box g22 51 [strV x20.path, .int .i64 x20.size, ue21_0], .row tB 5 u14 l13, .box g1 45 [strV x0.name, v0_0]] wz | true, true, true => ∃ FJ : Frz, ∃ u25 : Value, ∃ v27 : Value, vs 0 = u14 ∧ vs 5 = u25 ∧ vs 6 = v27 ∧ F11.le FJ ∧ St [] w F FJ [.row tB 5 u25 [(toB8 (x20.path.length : Int))], .box g22 51 [strV x20.path, .int .i64 x20.size, ue21_0], .row tB 5 v27 l26, .box g1 45 [strV x0.name, v0_0]] wz | _, _, _ => False) 9 [[], [], [1], [2], [3], [4], [0, 5], [], [7]] [none, some (pl g22 (0 + 0)), some (strV x20.path), some (.int .i64 (x20.path.length : Int)), some (.int .u8 ((toB8 (x20.path.length : Int)).toNat : Int)), none, none, some (pl g22 (0 + 0)), some (strV x20.path)] Ty.mixed rfl (by kernel_rfl) (by kernel_rfl) rfl
     ·intro vq30 b0 b5 b6 h0 h5 h6;obtain rfl : b0 = false := h0.symm;obtain rfl : b5 = false := h5.symm;obtain rfl : b6 = false := h6.symm;exact ⟨F11, (Frz.le.refl _), (hS24.below (below_drew _))⟩
     ·refine ⟨?_, ?_, ?_, ?_, ?_, ?_, ?_, ?_, ?_, trivial⟩
      ·intro w31 vq31 D31 hD31 hd31 hJ31
       rcases Bool.eq_false_or_eq_true (D31 5) with hb32 | hb32
       ·
        rcases Bool.eq_false_or_eq_true (D31 6) with hb33 | hb33
        ·exact False.elim (hJ31 false true true hD31 hb32 hb33)
        ·obtain ⟨FJ31, u25, he31_5, leJ31, hSJ31⟩ := (hJ31 false true false hD31 hb32 hb33);refine W_move rfl rfl ?_;refine W_nil ?_;exact N_stepJ rfl (fun u (hu : (none : Option Value) = some u) => by cases hu) (fun b0 b5 b6 h0 h5 h6 => by obtain rfl : b0 = true := h0.symm; obtain rfl : b5 = true := h5.symm.trans hb32; obtain rfl : b6 = false := h6.symm.trans hb33; exact ⟨FJ31, u25, rfl, he31_5, leJ31, hSJ31⟩)
       ·
        rcases Bool.eq_false_or_eq_true (D31 6) with hb34 | hb34
        ·exact False.elim (hJ31 false false true hD31 hb32 hb34)
        ·obtain ⟨FJ31, leJ31, hSJ31⟩ := (hJ31 false false false hD31 hb32 hb34);refine W_move rfl rfl ?_;refine W_nil ?_;exact N_stepJ rfl (fun u (hu : (none : Option Value) = some u) => by cases hu) (fun b0 b5 b6 h0 h5 h6 => by obtain rfl : b0 = true := h0.symm; obtain rfl : b5 = false := h5.symm.trans hb32; obtain rfl : b6 = false := h6.symm.trans hb34; exact ⟨FJ31, rfl, leJ31, hSJ31⟩)
      ·intro w35 vq35 D35 hD35 hd35 hJ35
       rcases Bool.eq_false_or_eq_true (D35 0) with hb36 | hb36
       ·
        rcases Bool.eq_false_or_eq_true (D35 5) with hb37 | hb37
        ·
         rcases Bool.eq_false_or_eq_true (D35 6) with hb38 | hb38
         ·obtain ⟨FJ35, u25, v27, he35_0, he35_5, he35_6, leJ35, hSJ35⟩ := (hJ35 true true true hb36 hb37 hb38);refine W_field_pl 0 rfl Ty.field51_0 rfl ?_;refine W_nil ?_;exact N_stepJ rfl (fun u hu => Option.some.inj hu) (fun b0 b5 b6 h0 h5 h6 => by obtain rfl : b0 = true := h0.symm.trans hb36; obtain rfl : b5 = true := h5.symm.trans hb37; obtain rfl : b6 = true := h6.symm.trans hb38; exact ⟨FJ35, u25, v27, he35_0, he35_5, he35_6, leJ35, hSJ35⟩)
         ·obtain ⟨FJ35, u25, he35_0, he35_5, leJ35, hSJ35⟩ := (hJ35 true true false hb36 hb37 hb38);refine W_field_pl 0 rfl Ty.field51_0 rfl ?_;refine W_nil ?_;exact N_stepJ rfl (fun u hu => Option.some.inj hu) (fun b0 b5 b6 h0 h5 h6 => by obtain rfl : b0 = true := h0.symm.trans hb36; obtain rfl : b5 = true := h5.symm.trans hb37; obtain rfl : b6 = false := h6.symm.trans hb38; exact ⟨FJ35, u25, he35_0, he35_5, leJ35, hSJ35⟩)
        ·
         rcases Bool.eq_false_or_eq_true (D35 6) with hb39 | hb39
         ·exact False.elim (hJ35 true false true hb36 hb37 hb39)
         ·obtain ⟨FJ35, he35_0, leJ35, hSJ35⟩ := (hJ35 true false false hb36 hb37 hb39);refine W_field_pl 0 rfl Ty.field51_0 rfl ?_;refine W_nil ?_;exact N_stepJ rfl (fun u hu => Option.some.inj hu) (fun b0 b5 b6 h0 h5 h6 => by obtain rfl : b0 = true := h0.symm.trans hb36; obtain rfl : b5 = false := h5.symm.trans hb37; obtain rfl : b6 = false := h6.symm.trans hb39; exact ⟨FJ35, he35_0, leJ35, hSJ35⟩)
       ·
        rcases Bool.eq_false_or_eq_true (D35 5) with hb40 | hb40
        ·
         rcases Bool.eq_false_or_eq_true (D35 6) with hb41 | hb41
         ·exact False.elim (hJ35 false true true hb36 hb40 hb41)
         ·obtain ⟨FJ35, u25, he35_5, leJ35, hSJ35⟩ := (hJ35 false true false hb36 hb40 hb41);refine W_field_pl 0 rfl Ty.field51_0 rfl ?_;refine W_nil ?_;exact N_stepJ rfl (fun u hu => Option.some.inj hu) (fun b0 b5 b6 h0 h5 h6 => by obtain rfl : b0 = false := h0.symm.trans hb36; obtain rfl : b5 = true := h5.symm.trans hb40; obtain rfl : b6 = false := h6.symm.trans hb41; exact ⟨FJ35, u25, he35_5, leJ35, hSJ35⟩)
        ·
         rcases Bool.eq_false_or_eq_true (D35 6) with hb42 | hb42
         ·exact False.elim (hJ35 false false true hb36 hb40 hb42)
         ·obtain ⟨FJ35, leJ35, hSJ35⟩ := (hJ35 false false false hb36 hb40 hb42);refine W_field_pl 0 rfl Ty.field51_0 rfl ?_;refine W_nil ?_;exact N_stepJ rfl (fun u hu => Option.some.inj hu) (fun b0 b5 b6 h0 h5 h6 => by obtain rfl : b0 = false := h0.symm.trans hb36; obtain rfl : b5 = false := h5.symm.trans hb40; obtain rfl : b6 = false := h6.symm.trans hb42; exact ⟨FJ35, leJ35, hSJ35⟩)
      ·intro w43 vq43 D43 hD43 hd43 hJ43
       rcases Bool.eq_false_or_eq_true (D43 0) with hb44 | hb44
       ·
        rcases Bool.eq_false_or_eq_true (D43 5) with hb45 | hb45
        ·
         rcases Bool.eq_false_or_eq_true (D43 6) with hb46 | hb46
         ·obtain ⟨FJ43, u25, v27, he43_0, he43_5, he43_6, leJ43, hSJ43⟩ := (hJ43 true true true hb44 hb45 hb46);refine W_bld1 1 rfl Ty.cell9 rfl hSJ43 rfl rfl ?_;refine W_nil ?_;exact N_stepJ rfl (fun u hu => Option.some.inj hu) (fun b0 b5 b6 h0 h5 h6 => by obtain rfl : b0 = true := h0.symm.trans hb44; obtain rfl : b5 = true := h5.symm.trans hb45; obtain rfl : b6 = true := h6.symm.trans hb46; exact ⟨FJ43, u25, v27, he43_0, he43_5, he43_6, leJ43, hSJ43⟩)
         ·obtain ⟨FJ43, u25, he43_0, he43_5, leJ43, hSJ43⟩ := (hJ43 true true false hb44 hb45 hb46);refine W_bld1 1 rfl Ty.cell9 rfl hSJ43 rfl rfl ?_;refine W_nil ?_;exact N_stepJ rfl (fun u hu => Option.some.inj hu) (fun b0 b5 b6 h0 h5 h6 => by obtain rfl : b0 = true := h0.symm.trans hb44; obtain rfl : b5 = true := h5.symm.trans hb45; obtain rfl : b6 = false := h6.symm.trans hb46; exact ⟨FJ43, u25, he43_0, he43_5, leJ43, hSJ43⟩)
        ·
         rcases Bool.eq_false_or_eq_true (D43 6) with hb47 | hb47
         ·exact False.elim (hJ43 true false true hb44 hb45 hb47)
         ·obtain ⟨FJ43, he43_0, leJ43, hSJ43⟩ := (hJ43 true false false hb44 hb45 hb47);refine W_bld1 0 rfl Ty.cell9 rfl hSJ43 rfl rfl ?_;refine W_nil ?_;exact N_stepJ rfl (fun u hu => Option.some.inj hu) (fun b0 b5 b6 h0 h5 h6 => by obtain rfl : b0 = true := h0.symm.trans hb44; obtain rfl : b5 = false := h5.symm.trans hb45; obtain rfl : b6 = false := h6.symm.trans hb47; exact ⟨FJ43, he43_0, leJ43, hSJ43⟩)
       ·
        rcases Bool.eq_false_or_eq_true (D43 5) with hb48 | hb48
        ·
         rcases Bool.eq_false_or_eq_true (D43 6) with hb49 | hb49
         ·exact False.elim (hJ43 false true true hb44 hb48 hb49)
         ·obtain ⟨FJ43, u25, he43_5, leJ43, hSJ43⟩ := (hJ43 false true false hb44 hb48 hb49);refine W_bld1 1 rfl Ty.cell9 rfl hSJ43 rfl rfl ?_;refine W_nil ?_;exact N_stepJ rfl (fun u hu => Option.some.inj hu) (fun b0 b5 b6 h0 h5 h6 => by obtain rfl : b0 = false := h0.symm.trans hb44; obtain rfl : b5 = true := h5.symm.trans hb48; obtain rfl : b6 = false := h6.symm.trans hb49; exact ⟨FJ43, u25, he43_5, leJ43, hSJ43⟩)
        ·
         rcases Bool.eq_false_or_eq_true (D43 6) with hb50 | hb50
         ·exact False.elim (hJ43 false false true hb44 hb48 hb50)
         ·obtain ⟨FJ43, leJ43, hSJ43⟩ := (hJ43 false false false hb44 hb48 hb50);refine W_bld1 0 rfl Ty.cell9 rfl hSJ43 rfl rfl ?_;refine W_nil ?_;exact N_stepJ rfl (fun u hu => Option.some.inj hu) (fun b0 b5 b6 h0 h5 h6 => by obtain rfl : b0 = false := h0.symm.trans hb44; obtain rfl : b5 = false := h5.symm.trans hb48; obtain rfl : b6 = false := h6.symm.trans hb50; exact ⟨FJ43, leJ43, hSJ43⟩)
      ·intro w51 vq51 D51 hD51 hd51 hJ51
       rcases Bool.eq_false_or_eq_true (D51 0) with hb52 | hb52
       ·
        rcases Bool.eq_false_or_eq_true (D51 5) with hb53 | hb53
        ·
         rcases Bool.eq_false_or_eq_true (D51 6) with hb54 | hb54
         ·obtain ⟨FJ51, u25, v27, he51_0, he51_5, he51_6, leJ51, hSJ51⟩ := (hJ51 true true true hb52 hb53 hb54);refine W_lenS rfl Try.underlying9 rfl ?_;refine W_nil ?_;exact N_stepJ rfl (fun u hu => Option.some.inj hu) (fun b0 b5 b6 h0 h5 h6 => by obtain rfl : b0 = true := h0.symm.trans hb52; obtain rfl : b5 = true := h5.symm.trans hb53; obtain rfl : b6 = true := h6.symm.trans hb54; exact ⟨FJ51, u25, v27, he51_0, he51_5, he51_6, leJ51, hSJ51⟩)
         ·obtain ⟨FJ51, u25, he51_0, he51_5, leJ51, hSJ51⟩ := (hJ51 true true false hb52 hb53 hb54);refine W_lenS rfl Try.underlying9 rfl ?_;refine W_nil ?_;exact N_stepJ rfl (fun u hu => Option.some.inj hu) (fun b0 b5 b6 h0 h5 h6 => by obtain rfl : b0 = true := h0.symm.trans hb52; obtain rfl : b5 = true := h5.symm.trans hb53; obtain rfl : b6 = false := h6.symm.trans hb54; exact ⟨FJ51, u25, he51_0, he51_5, leJ51, hSJ51⟩)
        ·
         rcases Bool.eq_false_or_eq_true (D51 6) with hb55 | hb55
         ·exact False.elim (hJ51 true false true hb52 hb53 hb55)
         ·obtain ⟨FJ51, he51_0, leJ51, hSJ51⟩ := (hJ51 true false false hb52 hb53 hb55);refine W_lenS rfl Try.underlying9 rfl ?_;refine W_nil ?_;exact N_stepJ rfl (fun u hu => Option.some.inj hu) (fun b0 b5 b6 h0 h5 h6 => by obtain rfl : b0 = true := h0.symm.trans hb52; obtain rfl : b5 = false := h5.symm.trans hb53; obtain rfl : b6 = false := h6.symm.trans hb55; exact ⟨FJ51, he51_0, leJ51, hSJ51⟩)
       ·
        rcases Bool.eq_false_or_eq_true (D51 5) with hb56 | hb56
        ·
         rcases Bool.eq_false_or_eq_true (D51 6) with hb57 | hb57
         ·exact False.elim (hJ51 false true true hb52 hb56 hb57)
         ·obtain ⟨FJ51, u25, he51_5, leJ51, hSJ51⟩ := (hJ51 false true false hb52 hb56 hb57);refine W_lenS rfl Try.underlying9 rfl ?_;refine W_nil ?_;exact N_stepJ rfl (fun u hu => Option.some.inj hu) (fun b0 b5 b6 h0 h5 h6 => by obtain rfl : b0 = false := h0.symm.trans hb52; obtain rfl : b5 = true := h5.symm.trans hb56; obtain rfl : b6 = false := h6.symm.trans hb57; exact ⟨FJ51, u25, he51_5, leJ51, hSJ51⟩)
        ·
         rcases Bool.eq_false_or_eq_true (D51 6) with hb58 | hb58
         ·exact False.elim (hJ51 false false true hb52 hb56 hb58)
         ·obtain ⟨FJ51, leJ51, hSJ51⟩ := (hJ51 false false false hb52 hb56 hb58);refine W_lenS rfl Try.underlying9 rfl ?_;refine W_nil ?_;exact N_stepJ rfl (fun u hu => Option.some.inj hu) (fun b0 b5 b6 h0 h5 h6 => by obtain rfl : b0 = false := h0.symm.trans hb52; obtain rfl : b5 = false := h5.symm.trans hb56; obtain rfl : b6 = false := h6.symm.trans hb58; exact ⟨FJ51, leJ51, hSJ51⟩)
      ·intro w59 vq59 D59 hD59 hd59 hJ59
       rcases Bool.eq_false_or_eq_true (D59 0) with hb60 | hb60
       ·
        rcases Bool.eq_false_or_eq_true (D59 5) with hb61 | hb61
        ·
         rcases Bool.eq_false_or_eq_true (D59 6) with hb62 | hb62
         ·obtain ⟨FJ59, u25, v27, he59_0, he59_5, he59_6, leJ59, hSJ59⟩ := (hJ59 true true true hb60 hb61 hb62);refine W_conv rfl rfl Ty.some3 Try.underlying5 (i8_of _) ?_;refine W_nil ?_;exact N_stepJ rfl (fun u hu => Option.some.inj hu) (fun b0 b5 b6 h0 h5 h6 => by obtain rfl : b0 = true := h0.symm.trans hb60; obtain rfl : b5 = true := h5.symm.trans hb61; obtain rfl : b6 = true := h6.symm.trans hb62; exact ⟨FJ59, u25, v27, he59_0, he59_5, he59_6, leJ59, hSJ59⟩)
         ·obtain ⟨FJ59, u25, he59_0, he59_5, leJ59, hSJ59⟩ := (hJ59 true true false hb60 hb61 hb62);refine W_conv rfl rfl Ty.some3 Try.underlying5 (i8_of _) ?_;refine W_nil ?_;exact N_stepJ rfl (fun u hu => Option.some.inj hu) (fun b0 b5 b6 h0 h5 h6 => by obtain rfl : b0 = true := h0.symm.trans hb60; obtain rfl : b5 = true := h5.symm.trans hb61; obtain rfl : b6 = false := h6.symm.trans hb62; exact ⟨FJ59, u25, he59_0, he59_5, leJ59, hSJ59⟩)
        ·
         rcases Bool.eq_false_or_eq_true (D59 6) with hb63 | hb63
         ·exact False.elim (hJ59 true false true hb60 hb61 hb63)
         ·obtain ⟨FJ59, he59_0, leJ59, hSJ59⟩ := (hJ59 true false false hb60 hb61 hb63);refine W_conv rfl rfl Ty.some3 Try.underlying5 (i8_of _) ?_;refine W_nil ?_;exact N_stepJ rfl (fun u hu => Option.some.inj hu) (fun b0 b5 b6 h0 h5 h6 => by obtain rfl : b0 = true := h0.symm.trans hb60; obtain rfl : b5 = false := h5.symm.trans hb61; obtain rfl : b6 = false := h6.symm.trans hb63; exact ⟨FJ59, he59_0, leJ59, hSJ59⟩)
       ·
        rcases Bool.eq_false_or_eq_true (D59 5) with hb64 | hb64
        ·
         rcases Bool.eq_false_or_eq_true (D59 6) with hb65 | hb65
         ·exact False.elim (hJ59 false true true hb60 hb64 hb65)
         ·obtain ⟨FJ59, u25, he59_5, leJ59, hSJ59⟩ := (hJ59 false true false hb60 hb64 hb65);refine W_conv rfl rfl Ty.some3 Try.underlying5 (i8_of _) ?_;refine W_nil ?_;exact N_stepJ rfl (fun u hu => Option.some.inj hu) (fun b0 b5 b6 h0 h5 h6 => by obtain rfl : b0 = false := h0.symm.trans hb60; obtain rfl : b5 = true := h5.symm.trans hb64; obtain rfl : b6 = false := h6.symm.trans hb65; exact ⟨FJ59, u25, he59_5, leJ59, hSJ59⟩)
        ·
         rcases Bool.eq_false_or_eq_true (D59 6) with hb66 | hb66
         ·exact False.elim (hJ59 false false true hb60 hb64 hb66)
         ·obtain ⟨FJ59, leJ59, hSJ59⟩ := (hJ59 false false false hb60 hb64 hb66);refine W_conv rfl rfl Ty.some3 Try.underlying5 (i8_of _) ?_;refine W_nil ?_;exact N_stepJ rfl (fun u hu => Option.some.inj hu) (fun b0 b5 b6 h0 h5 h6 => by obtain rfl : b0 = false := h0.symm.trans hb60; obtain rfl : b5 = false := h5.symm.trans hb64; obtain rfl : b6 = false := h6.symm.trans hb66; exact ⟨FJ59, leJ59, hSJ59⟩)
      ·intro w67 vq67 D67 hD67 hd67 hJ67
       rcases Bool.eq_false_or_eq_true (D67 0) with hb68 | hb68
       ·
        rcases Bool.eq_false_or_eq_true (D67 6) with hb69 | hb69
        ·exact False.elim (hJ67 true false true hb68 hD67 hb69)
        ·obtain ⟨FJ67, he67_0, leJ67, hSJ67⟩ := (hJ67 true false false hb68 hD67 hb69);refine W_bs (t := tB) [[.int .u8 ((toB8 (x20.path.length : Int)).toNat : Int)]] [(toB8 (x20.path.length : Int))] rfl Try.underlying25 Ty.cells5 rfl rfl Ty.zero5 rfl rfl ⟨rfl, trivial⟩ rfl rfl hSJ67 ?_;intro u25 w25 hS25;refine W_nil ?_;exact N_stepJ rfl (fun u (hu : (none : Option Value) = some u) => by cases hu) (fun b0 b5 b6 h0 h5 h6 => by obtain rfl : b0 = true := h0.symm.trans hb68; obtain rfl : b5 = true := h5.symm; obtain rfl : b6 = false := h6.symm.trans hb69; exact ⟨FJ67, u25, he67_0, rfl, leJ67, hS25⟩)
       ·
        rcases Bool.eq_false_or_eq_true (D67 6) with hb70 | hb70
        ·exact False.elim (hJ67 false false true hb68 hD67 hb70)
        ·obtain ⟨FJ67, leJ67, hSJ67⟩ := (hJ67 false false false hb68 hD67 hb70);refine W_bs (t := tB) [[.int .u8 ((toB8 (x20.path.length : Int)).toNat : Int)]] [(toB8 (x20.path.length : Int))] rfl Try.underlying25 Ty.cells5 rfl rfl Ty.zero5 rfl rfl ⟨rfl, trivial⟩ rfl rfl hSJ67 ?_;intro u25 w25 hS25;refine W_nil ?_;exact N_stepJ rfl (fun u (hu : (none : Option Value) = some u) => by cases hu) (fun b0 b5 b6 h0 h5 h6 => by obtain rfl : b0 = false := h0.symm.trans hb68; obtain rfl : b5 = true := h5.symm; obtain rfl : b6 = false := h6.symm.trans hb70; exact ⟨FJ67, u25, rfl, leJ67, hS25⟩)
      ·intro w71 vq71 D71 hD71 hd71 hJ71;obtain ⟨FJ71, u25, he71_0, he71_5, leJ71, hSJ71⟩ := (hJ71 true true false (hd71 0 (by decide)) (hd71 5 (by decide)) hD71);refine W_eqv (t := 34) rfl he71_0 ?_;refine W_eqv (t := 39) rfl he71_5 ?_;refine W_appM 2 rfl Try.underlying25 Ty.row5 rfl rfl rfl rfl rfl hSJ71 rfl (hSJ71.rowSrc (j := 0) rfl) hl26 ?_;intro v27 w27 hS27;refine W_nil ?_;exact N_stepJ rfl (fun u (hu : (none : Option Value) = some u) => by cases hu) (fun b0 b5 b6 h0 h5 h6 => by obtain rfl : b0 = true := h0.symm.trans (hd71 0 (by decide)); obtain rfl : b5 = true := h5.symm.trans (hd71 5 (by decide)); obtain rfl : b6 = true := h6.symm; exact ⟨FJ71, u25, v27, he71_0, he71_5, rfl, leJ71, hS27⟩)
      ·intro w72 vq72 D72 hD72 hd72 hJ72
       rcases Bool.eq_false_or_eq_true (D72 0) with hb73 | hb73
       ·
        rcases Bool.eq_false_or_eq_true (D72 5) with hb74 | hb74
        ·
         rcases Bool.eq_false_or_eq_true (D72 6) with hb75 | hb75
         ·obtain ⟨FJ72, u25, v27, he72_0, he72_5, he72_6, leJ72, hSJ72⟩ := (hJ72 true true true hb73 hb74 hb75);refine W_field_pl 0 rfl Ty.field51_0 rfl ?_;refine W_nil ?_;exact N_stepJ rfl (fun u hu => Option.some.inj hu) (fun b0 b5 b6 h0 h5 h6 => by obtain rfl : b0 = true := h0.symm.trans hb73; obtain rfl : b5 = true := h5.symm.trans hb74; obtain rfl : b6 = true := h6.symm.trans hb75; exact ⟨FJ72, u25, v27, he72_0, he72_5, he72_6, leJ72, hSJ72⟩)
         ·obtain ⟨FJ72, u25, he72_0, he72_5, leJ72, hSJ72⟩ := (hJ72 true true false hb73 hb74 hb75);refine W_field_pl 0 rfl Ty.field51_0 rfl ?_;refine W_nil ?_;exact N_stepJ rfl (fun u hu => Option.some.inj hu) (fun b0 b5 b6 h0 h5 h6 => by obtain rfl : b0 = true := h0.symm.trans hb73; obtain rfl : b5 = true := h5.symm.trans hb74; obtain rfl : b6 = false := h6.symm.trans hb75; exact ⟨FJ72, u25, he72_0, he72_5, leJ72, hSJ72⟩)
        ·
         rcases Bool.eq_false_or_eq_true (D72 6) with hb76 | hb76
         ·exact False.elim (hJ72 true false true hb73 hb74 hb76)
         ·obtain ⟨FJ72, he72_0, leJ72, hSJ72⟩ := (hJ72 true false false hb73 hb74 hb76);refine W_field_pl 0 rfl Ty.field51_0 rfl ?_;refine W_nil ?_;exact N_stepJ rfl (fun u hu => Option.some.inj hu) (fun b0 b5 b6 h0 h5 h6 => by obtain rfl : b0 = true := h0.symm.trans hb73; obtain rfl : b5 = false := h5.symm.trans hb74; obtain rfl : b6 = false := h6.symm.trans hb76; exact ⟨FJ72, he72_0, leJ72, hSJ72⟩)
       ·
        rcases Bool.eq_false_or_eq_true (D72 5) with hb77 | hb77
        ·
         rcases Bool.eq_false_or_eq_true (D72 6) with hb78 | hb78
         ·exact False.elim (hJ72 false true true hb73 hb77 hb78)
         ·obtain ⟨FJ72, u25, he72_5, leJ72, hSJ72⟩ := (hJ72 false true false hb73 hb77 hb78);refine W_field_pl 0 rfl Ty.field51_0 rfl ?_;refine W_nil ?_;exact N_stepJ rfl (fun u hu => Option.some.inj hu) (fun b0 b5 b6 h0 h5 h6 => by obtain rfl : b0 = false := h0.symm.trans hb73; obtain rfl : b5 = true := h5.symm.trans hb77; obtain rfl : b6 = false := h6.symm.trans hb78; exact ⟨FJ72, u25, he72_5, leJ72, hSJ72⟩)
        ·
         rcases Bool.eq_false_or_eq_true (D72 6) with hb79 | hb79
         ·exact False.elim (hJ72 false false true hb73 hb77 hb79)
         ·obtain ⟨FJ72, leJ72, hSJ72⟩ := (hJ72 false false false hb73 hb77 hb79);refine W_field_pl 0 rfl Ty.field51_0 rfl ?_;refine W_nil ?_;exact N_stepJ rfl (fun u hu => Option.some.inj hu) (fun b0 b5 b6 h0 h5 h6 => by obtain rfl : b0 = false := h0.symm.trans hb73; obtain rfl : b5 = false := h5.symm.trans hb77; obtain rfl : b6 = false := h6.symm.trans hb79; exact ⟨FJ72, leJ72, hSJ72⟩)
      ·intro w80 vq80 D80 hD80 hd80 hJ80
       rcases Bool.eq_false_or_eq_true (D80 0) with hb81 | hb81
       ·
        rcases Bool.eq_false_or_eq_true (D80 5) with hb82 | hb82
        ·
         rcases Bool.eq_false_or_eq_true (D80 6) with hb83 | hb83
         ·obtain ⟨FJ80, u25, v27, he80_0, he80_5, he80_6, leJ80, hSJ80⟩ := (hJ80 true true true hb81 hb82 hb83);refine W_bld1 1 rfl Ty.cell9 rfl hSJ80 rfl rfl ?_;refine W_nil ?_;exact N_stepJ rfl (fun u hu => Option.some.inj hu) (fun b0 b5 b6 h0 h5 h6 => by obtain rfl : b0 = true := h0.symm.trans hb81; obtain rfl : b5 = true := h5.symm.trans hb82; obtain rfl : b6 = true := h6.symm.trans hb83; exact ⟨FJ80, u25, v27, he80_0, he80_5, he80_6, leJ80, hSJ80⟩)
         ·obtain ⟨FJ80, u25, he80_0, he80_5, leJ80, hSJ80⟩ := (hJ80 true true false hb81 hb82 hb83);refine W_bld1 1 rfl Ty.cell9 rfl hSJ80 rfl rfl ?_;refine W_nil ?_;exact N_stepJ rfl (fun u hu => Option.some.inj hu) (fun b0 b5 b6 h0 h5 h6 => by obtain rfl : b0 = true := h0.symm.trans hb81; obtain rfl : b5 = true := h5.symm.trans hb82; obtain rfl : b6 = false := h6.symm.trans hb83; exact ⟨FJ80, u25, he80_0, he80_5, leJ80, hSJ80⟩)
        ·
         rcases Bool.eq_false_or_eq_true (D80 6) with hb84 | hb84
         ·exact False.elim (hJ80 true false true hb81 hb82 hb84)
         ·obtain ⟨FJ80, he80_0, leJ80, hSJ80⟩ := (hJ80 true false false hb81 hb82 hb84);refine W_bld1 0 rfl Ty.cell9 rfl hSJ80 rfl rfl ?_;refine W_nil ?_;exact N_stepJ rfl (fun u hu => Option.some.inj hu) (fun b0 b5 b6 h0 h5 h6 => by obtain rfl : b0 = true := h0.symm.trans hb81; obtain rfl : b5 = false := h5.symm.trans hb82; obtain rfl : b6 = false := h6.symm.trans hb84; exact ⟨FJ80, he80_0, leJ80, hSJ80⟩)
       ·
        rcases Bool.eq_false_or_eq_true (D80 5) with hb85 | hb85
        ·
         rcases Bool.eq_false_or_eq_true (D80 6) with hb86 | hb86
         ·exact False.elim (hJ80 false true true hb81 hb85 hb86)
         ·obtain ⟨FJ80, u25, he80_5, leJ80, hSJ80⟩ := (hJ80 false true false hb81 hb85 hb86);refine W_bld1 1 rfl Ty.cell9 rfl hSJ80 rfl rfl ?_;refine W_nil ?_;exact N_stepJ rfl (fun u hu => Option.some.inj hu) (fun b0 b5 b6 h0 h5 h6 => by obtain rfl : b0 = false := h0.symm.trans hb81; obtain rfl : b5 = true := h5.symm.trans hb85; obtain rfl : b6 = false := h6.symm.trans hb86; exact ⟨FJ80, u25, he80_5, leJ80, hSJ80⟩)
        ·
         rcases Bool.eq_false_or_eq_true (D80 6) with hb87 | hb87
         ·exact False.elim (hJ80 false false true hb81 hb85 hb87)
         ·obtain ⟨FJ80, leJ80, hSJ80⟩ := (hJ80 false false false hb81 hb85 hb87);refine W_bld1 0 rfl Ty.cell9 rfl hSJ80 rfl rfl ?_;refine W_nil ?_;exact N_stepJ rfl (fun u hu => Option.some.inj hu) (fun b0 b5 b6 h0 h5 h6 => by obtain rfl : b0 = false := h0.symm.trans hb81; obtain rfl : b5 = false := h5.symm.trans hb85; obtain rfl : b6 = false := h6.symm.trans hb87; exact ⟨FJ80, leJ80, hSJ80⟩)
     intro w88 vq88 D88 hA88 hJ88;obtain ⟨FJ88, u25, v27, he88_0, he88_5, he88_6, leJ88, hSJ88⟩ := (hJ88 true true true (hA88 0 (by decide)) (hA88 5 (by decide)) (hA88 6 (by decide)));refine W_eqv (t := 34) rfl he88_0 ?_;refine W_eqv (t := 39) rfl he88_5 ?_;refine W_eqv (t := 40) rfl he88_6 ?_;refine W_appS 2 rfl Try.underlying25 Try.underlying9 Ty.row5 rfl rfl rfl rfl hSJ88 rfl hl28 ?_;intro v29 w29 hS29;refine W_assign rfl rfl ?_;refine W_nil ?_;refine N_code ?_;refine C_seq ?_;obtain ⟨r89, hr89, H⟩ := bd_some H;obtain ⟨l90, hl90, H⟩ := bd_some H;obtain ⟨l93, hl93, H⟩ := bd_some H
     apply C_drawJ (fun D vs wz => ∀ (b0 b3 b4 b9 : Bool), D 0 = b0 → D 3 = b3 → D 4 = b4 → D 9 = b9 → match b0, b3, b4, b9 with | false, false, false, false => ∃ FJ : Frz, FJ88.le FJ ∧ St [] w F FJ [.row tB 5 u25 [(toB8 (x20.path.length : Int))], .box g22 51 [strV x20.path, .int .i64 x20.size, ue21_0], .row tB 5 v29 l28, .box g1 45 [strV x0.name, v0_0]] wz | true, false, false, false => ∃ FJ : Frz, vs 0 = v29 ∧ FJ88.le FJ ∧ St [] w F FJ [.row tB 5 u25 [(toB8 (x20.path.length : Int))], .box g22 51 [strV x20.path, .int .i64 x20.size, ue21_0], .row tB 5 v29 l28, .box g1 45 [strV x0.name, v0_0]] wz | false, true, false, false => ∃ FJ : Frz, ∃ ur89_0 : Value, vs 3 = ur89_0 ∧ FJ88.le FJ ∧ St [] w F FJ [.row tB 5 ur89_0 r89, .row tB 5 u25 [(toB8 (x20.path.length : Int))], .box g22 51 [strV x20.path, .int .i64 x20.size, ue21_0], .row tB 5 v29 l28, .box g1 45 [strV x0.name, v0_0]] wz | true, true, false, false => ∃ FJ : Frz, ∃ ur89_0 : Value, vs 0 = v29 ∧ vs 3 = ur89_0 ∧ FJ88.le FJ ∧ St [] w F FJ [.row tB 5 ur89_0 r89, .row tB 5 u25 [(toB8 (x20.path.length : Int))], .box g22 51 [strV x20.path, .int .i64 x20.size, ue21_0], .row tB 5 v29 l28, .box g1 45 [strV x0.name, v0_0]] wz | true, true, true, false => ∃ FJ : Frz, ∃ ur89_0 : Value, ∃ v91 : Value, vs 0 = v29 ∧ vs 3 = ur89_0 ∧ vs 4 = v91 ∧ FJ88.le FJ ∧ St [] w F FJ [.row tB 5 ur89_0 r89, .row tB 5 u25 [(toB8 (x20.path.length : Int))], .box g22 51 [strV x20.path, .int .i64 x20.size, ue21_0], .row tB 5 v91 l90, .box g1 45 [strV x0.name, v0_0]] wz | false, false, false, true => ∃ FJ : Frz, ∃ u92 : Value, vs 9 = u92 ∧ FJ88.le FJ ∧ St [] w F FJ [.row tB 5 u92 [(toB8 (x20.ids.length : Int))], .row tB 5 u25 [(toB8 (x20.path.length : Int))], .box g22 51 [strV x20.path, .int .i64 x20.size, ue21_0], .row tB 5 v29 l28, .box g1 45 [strV x0.name, v0_0]] wz | true, false, false, true => ∃ FJ : Frz, ∃ u92 : Value, vs 0 = v29 ∧ vs 9 = u92 ∧ FJ88.le FJ ∧ St [] w F FJ [.row tB 5 u92 [(toB8 (x20.ids.length : Int))], .row tB 5 u25 [(toB8 (x20.path.length : Int))], .box g22 51 [strV x20.path, .int .i64 x20.size, ue21_0], .row tB 5 v29 l28, .box g1 45 [strV x0.name, v0_0]] wz | false, true, false, true => ∃ FJ : Frz, ∃ ur89_0 : Value, ∃ u92 : Value, vs 3 = ur89_0 ∧ vs 9 = u92 ∧ FJ88.le FJ ∧ St [] w F FJ [.row tB 5 u92 [(toB8 (x20.ids.length : Int))], .row tB 5 ur89_0 r89, .row tB 5 u25 [(toB8 (x20.path.length : Int))], .box g22 51 [strV x20.path, .int .i64 x20.size, ue21_0], .row tB 5 v29 l28, .box g1 45 [strV x0.name, v0_0]] wz | true, true, false, true => ∃ FJ : Frz, ∃ ur89_0 : Value, ∃ u92 : Value, vs 0 = v29 ∧ vs 3 = ur89_0 ∧ vs 9 = u92 ∧ FJ88.le FJ ∧ St [] w F FJ [.row tB 5 u92 [(toB8 (x20.ids.length : Int))], .row tB 5 ur89_0 r89, .row tB 5 u25 [(toB8 (x20.path.length : Int))], .box g22 51 [strV x20.path, .int .i64 x20.size, ue21_0], .row tB 5 v29 l28, .box g1 45 [strV x0.name, v0_0]] wz | true, true, true, true => ∃ FJ : Frz, ∃ ur89_0 : Value, ∃ v91 : Value, ∃ u92 : Value, vs 0 = v29 ∧ vs 3 = ur89_0 ∧ vs 4 = v91 ∧ vs 9 = u92 ∧ FJ88.le FJ ∧ St [] w F FJ [.row tB 5 u92 [(toB8 (x20.ids.length : Int))], .row tB 5 ur89_0 r89, .row tB 5 u25 [(toB8 (x20.path.length : Int))], .box g22 51 [strV x20.path, .int .i64 x20.size, ue21_0], .row tB 5 v91 l90, .box g1 45 [strV x0.name, v0_0]] wz | _, _, _, _ => False) 10 [[], [], [1], [2], [0, 3], [], [5], [6], [7], [8]] [none, some (pl g22 (0 + 1)), some (.int .i64 x20.size), none, none, some (pl g22 (0 + 2)), some (ue21_0), some (.int .i64 (x20.ids.length : Int)), some (.int .u8 ((toB8 (x20.ids.length : Int)).toNat : Int)), none] Ty.mixed rfl (by kernel_rfl) (by kernel_rfl) rfl
     ·intro vq103 b0 b3 b4 b9 h0 h3 h4 h9;obtain rfl : b0 = false := h0.symm;obtain rfl : b3 = false := h3.symm;obtain rfl : b4 = false := h4.symm;obtain rfl : b9 = false := h9.symm;exact ⟨FJ88, (Frz.le.refl _), (hS29.below (below_drew _))⟩
     ·refine ⟨?_, ?_, ?_, ?_, ?_, ?_, ?_, ?_, ?_, ?_, trivial⟩
      ·intro w104 vq104 D104 hD104 hd104 hJ104
       rcases Bool.eq_false_or_eq_true (D104 3) with hb105 | hb105
       ·
        rcases Bool.eq_false_or_eq_true (D104 4) with hb106 | hb106
        ·
         rcases Bool.eq_false_or_eq_true (D104 9) with hb107 | hb107
         ·exact False.elim (hJ104 false true true true hD104 hb105 hb106 hb107)
         ·exact False.elim (hJ104 false true true false hD104 hb105 hb106 hb107)
        ·
         rcases Bool.eq_false_or_eq_true (D104 9) with hb108 | hb108
         ·obtain ⟨FJ104, ur89_0, u92, he104_3, he104_9, leJ104, hSJ104⟩ := (hJ104 false true false true hD104 hb105 hb106 hb108);refine W_move rfl rfl ?_;refine W_nil ?_;exact N_stepJ rfl (fun u (hu : (none : Option Value) = some u) => by cases hu) (fun b0 b3 b4 b9 h0 h3 h4 h9 => by obtain rfl : b0 = true := h0.symm; obtain rfl : b3 = true := h3.symm.trans hb105; obtain rfl : b4 = false := h4.symm.trans hb106; obtain rfl : b9 = true := h9.symm.trans hb108; exact ⟨FJ104, ur89_0, u92, rfl, he104_3, he104_9, leJ104, hSJ104⟩)
         ·obtain ⟨FJ104, ur89_0, he104_3, leJ104, hSJ104⟩ := (hJ104 false true false false hD104 hb105 hb106 hb108);refine W_move rfl rfl ?_;refine W_nil ?_;exact N_stepJ rfl (fun u (hu : (none : Option Value) = some u) => by cases hu) (fun b0 b3 b4 b9 h0 h3 h4 h9 => by obtain rfl : b0 = true := h0.symm; obtain rfl : b3 = true := h3.symm.trans hb105; obtain rfl : b4 = false := h4.symm.trans hb106; obtain rfl : b9 = false := h9.symm.trans hb108; exact ⟨FJ104, ur89_0, rfl, he104_3, leJ104, hSJ104⟩)
       ·
        rcases Bool.eq_false_or_eq_true (D104 4) with hb109 | hb109
        ·
         rcases Bool.eq_false_or_eq_true (D104 9) with hb110 | hb110
         ·exact False.elim (hJ104 false false true true hD104 hb105 hb109 hb110)
         ·exact False.elim (hJ104 false false true false hD104 hb105 hb109 hb110)
        ·
         rcases Bool.eq_false_or_eq_true (D104 9) with hb111 | hb111
         ·obtain ⟨FJ104, u92, he104_9, leJ104, hSJ104⟩ := (hJ104 false false false true hD104 hb105 hb109 hb111);refine W_move rfl rfl ?_;refine W_nil ?_;exact N_stepJ rfl (fun u (hu : (none : Option Value) = some u) => by cases hu) (fun b0 b3 b4 b9 h0 h3 h4 h9 => by obtain rfl : b0 = true := h0.symm; obtain rfl : b3 = false := h3.symm.trans hb105; obtain rfl : b4 = false := h4.symm.trans hb109; obtain rfl : b9 = true := h9.symm.trans hb111; exact ⟨FJ104, u92, rfl, he104_9, leJ104, hSJ104⟩)
         ·obtain ⟨FJ104, leJ104, hSJ104⟩ := (hJ104 false false false false hD104 hb105 hb109 hb111);refine W_move rfl rfl ?_;refine W_nil ?_;exact N_stepJ rfl (fun u (hu : (none : Option Value) = some u) => by cases hu) (fun b0 b3 b4 b9 h0 h3 h4 h9 => by obtain rfl : b0 = true := h0.symm; obtain rfl : b3 = false := h3.symm.trans hb105; obtain rfl : b4 = false := h4.symm.trans hb109; obtain rfl : b9 = false := h9.symm.trans hb111; exact ⟨FJ104, rfl, leJ104, hSJ104⟩)
      ·intro w112 vq112 D112 hD112 hd112 hJ112
       rcases Bool.eq_false_or_eq_true (D112 0) with hb113 | hb113
       ·
        rcases Bool.eq_false_or_eq_true (D112 3) with hb114 | hb114
        ·
         rcases Bool.eq_false_or_eq_true (D112 4) with hb115 | hb115
         ·
          rcases Bool.eq_false_or_eq_true (D112 9) with hb116 | hb116
          ·obtain ⟨FJ112, ur89_0, v91, u92, he112_0, he112_3, he112_4, he112_9, leJ112, hSJ112⟩ := (hJ112 true true true true hb113 hb114 hb115 hb116);refine W_field_pl 1 rfl Ty.field51_1 rfl ?_;refine W_nil ?_;exact N_stepJ rfl (fun u hu => Option.some.inj hu) (fun b0 b3 b4 b9 h0 h3 h4 h9 => by obtain rfl : b0 = true := h0.symm.trans hb113; obtain rfl : b3 = true := h3.symm.trans hb114; obtain rfl : b4 = true := h4.symm.trans hb115; obtain rfl : b9 = true := h9.symm.trans hb116; exact ⟨FJ112, ur89_0, v91, u92, he112_0, he112_3, he112_4, he112_9, leJ112, hSJ112⟩)
          ·obtain ⟨FJ112, ur89_0, v91, he112_0, he112_3, he112_4, leJ112, hSJ112⟩ := (hJ112 true true true false hb113 hb114 hb115 hb116);refine W_field_pl 1 rfl Ty.field51_1 rfl ?_;refine W_nil ?_;exact N_stepJ rfl (fun u hu => Option.some.inj hu) (fun b0 b3 b4 b9 h0 h3 h4 h9 => by obtain rfl : b0 = true := h0.symm.trans hb113; obtain rfl : b3 = true := h3.symm.trans hb114; obtain rfl : b4 = true := h4.symm.trans hb115; obtain rfl : b9 = false := h9.symm.trans hb116; exact ⟨FJ112, ur89_0, v91, he112_0, he112_3, he112_4, leJ112, hSJ112⟩)
         ·
          rcases Bool.eq_false_or_eq_true (D112 9) with hb117 | hb117
          ·obtain ⟨FJ112, ur89_0, u92, he112_0, he112_3, he112_9, leJ112, hSJ112⟩ := (hJ112 true true false true hb113 hb114 hb115 hb117);refine W_field_pl 1 rfl Ty.field51_1 rfl ?_;refine W_nil ?_;exact N_stepJ rfl (fun u hu => Option.some.inj hu) (fun b0 b3 b4 b9 h0 h3 h4 h9 => by obtain rfl : b0 = true := h0.symm.trans hb113; obtain rfl : b3 = true := h3.symm.trans hb114; obtain rfl : b4 = false := h4.symm.trans hb115; obtain rfl : b9 = true := h9.symm.trans hb117; exact ⟨FJ112, ur89_0, u92, he112_0, he112_3, he112_9, leJ112, hSJ112⟩)
          ·obtain ⟨FJ112, ur89_0, he112_0, he112_3, leJ112, hSJ112⟩ := (hJ112 true true false false hb113 hb114 hb115 hb117);refine W_field_pl 1 rfl Ty.field51_1 rfl ?_;refine W_nil ?_;exact N_stepJ rfl (fun u hu => Option.some.inj hu) (fun b0 b3 b4 b9 h0 h3 h4 h9 => by obtain rfl : b0 = true := h0.symm.trans hb113; obtain rfl : b3 = true := h3.symm.trans hb114; obtain rfl : b4 = false := h4.symm.trans hb115; obtain rfl : b9 = false := h9.symm.trans hb117; exact ⟨FJ112, ur89_0, he112_0, he112_3, leJ112, hSJ112⟩)
        ·
         rcases Bool.eq_false_or_eq_true (D112 4) with hb118 | hb118
         ·
          rcases Bool.eq_false_or_eq_true (D112 9) with hb119 | hb119
          ·exact False.elim (hJ112 true false true true hb113 hb114 hb118 hb119)
          ·exact False.elim (hJ112 true false true false hb113 hb114 hb118 hb119)
         ·
          rcases Bool.eq_false_or_eq_true (D112 9) with hb120 | hb120
          ·obtain ⟨FJ112, u92, he112_0, he112_9, leJ112, hSJ112⟩ := (hJ112 true false false true hb113 hb114 hb118 hb120);refine W_field_pl 1 rfl Ty.field51_1 rfl ?_;refine W_nil ?_;exact N_stepJ rfl (fun u hu => Option.some.inj hu) (fun b0 b3 b4 b9 h0 h3 h4 h9 => by obtain rfl : b0 = true := h0.symm.trans hb113; obtain rfl : b3 = false := h3.symm.trans hb114; obtain rfl : b4 = false := h4.symm.trans hb118; obtain rfl : b9 = true := h9.symm.trans hb120; exact ⟨FJ112, u92, he112_0, he112_9, leJ112, hSJ112⟩)
          ·obtain ⟨FJ112, he112_0, leJ112, hSJ112⟩ := (hJ112 true false false false hb113 hb114 hb118 hb120);refine W_field_pl 1 rfl Ty.field51_1 rfl ?_;refine W_nil ?_;exact N_stepJ rfl (fun u hu => Option.some.inj hu) (fun b0 b3 b4 b9 h0 h3 h4 h9 => by obtain rfl : b0 = true := h0.symm.trans hb113; obtain rfl : b3 = false := h3.symm.trans hb114; obtain rfl : b4 = false := h4.symm.trans hb118; obtain rfl : b9 = false := h9.symm.trans hb120; exact ⟨FJ112, he112_0, leJ112, hSJ112⟩)
       ·
        rcases Bool.eq_false_or_eq_true (D112 3) with hb121 | hb121
        ·
         rcases Bool.eq_false_or_eq_true (D112 4) with hb122 | hb122
         ·
          rcases Bool.eq_false_or_eq_true (D112 9) with hb123 | hb123
          ·exact False.elim (hJ112 false true true true hb113 hb121 hb122 hb123)
          ·exact False.elim (hJ112 false true true false hb113 hb121 hb122 hb123)
         ·
          rcases Bool.eq_false_or_eq_true (D112 9) with hb124 | hb124
          ·obtain ⟨FJ112, ur89_0, u92, he112_3, he112_9, leJ112, hSJ112⟩ := (hJ112 false true false true hb113 hb121 hb122 hb124);refine W_field_pl 1 rfl Ty.field51_1 rfl ?_;refine W_nil ?_;exact N_stepJ rfl (fun u hu => Option.some.inj hu) (fun b0 b3 b4 b9 h0 h3 h4 h9 => by obtain rfl : b0 = false := h0.symm.trans hb113; obtain rfl : b3 = true := h3.symm.trans hb121; obtain rfl : b4 = false := h4.symm.trans hb122; obtain rfl : b9 = true := h9.symm.trans hb124; exact ⟨FJ112, ur89_0, u92, he112_3, he112_9, leJ112, hSJ112⟩)
          ·obtain ⟨FJ112, ur89_0, he112_3, leJ112, hSJ112⟩ := (hJ112 false true false false hb113 hb121 hb122 hb124);refine W_field_pl 1 rfl Ty.field51_1 rfl ?_;refine W_nil ?_;exact N_stepJ rfl (fun u hu => Option.some.inj hu) (fun b0 b3 b4 b9 h0 h3 h4 h9 => by obtain rfl : b0 = false := h0.symm.trans hb113; obtain rfl : b3 = true := h3.symm.trans hb121; obtain rfl : b4 = false := h4.symm.trans hb122; obtain rfl : b9 = false := h9.symm.trans hb124; exact ⟨FJ112, ur89_0, he112_3, leJ112, hSJ112⟩)
        ·
         rcases Bool.eq_false_or_eq_true (D112 4) with hb125 | hb125
         ·
          rcases Bool.eq_false_or_eq_true (D112 9) with hb126 | hb126
          ·exact False.elim (hJ112 false false true true hb113 hb121 hb125 hb126)
          ·exact False.elim (hJ112 false false true false hb113 hb121 hb125 hb126)
         ·
          rcases Bool.eq_false_or_eq_true (D112 9) with hb127 | hb127
          ·obtain ⟨FJ112, u92, he112_9, leJ112, hSJ112⟩ := (hJ112 false false false true hb113 hb121 hb125 hb127);refine W_field_pl 1 rfl Ty.field51_1 rfl ?_;refine W_nil ?_;exact N_stepJ rfl (fun u hu => Option.some.inj hu) (fun b0 b3 b4 b9 h0 h3 h4 h9 => by obtain rfl : b0 = false := h0.symm.trans hb113; obtain rfl : b3 = false := h3.symm.trans hb121; obtain rfl : b4 = false := h4.symm.trans hb125; obtain rfl : b9 = true := h9.symm.trans hb127; exact ⟨FJ112, u92, he112_9, leJ112, hSJ112⟩)
          ·obtain ⟨FJ112, leJ112, hSJ112⟩ := (hJ112 false false false false hb113 hb121 hb125 hb127);refine W_field_pl 1 rfl Ty.field51_1 rfl ?_;refine W_nil ?_;exact N_stepJ rfl (fun u hu => Option.some.inj hu) (fun b0 b3 b4 b9 h0 h3 h4 h9 => by obtain rfl : b0 = false := h0.symm.trans hb113; obtain rfl : b3 = false := h3.symm.trans hb121; obtain rfl : b4 = false := h4.symm.trans hb125; obtain rfl : b9 = false := h9.symm.trans hb127; exact ⟨FJ112, leJ112, hSJ112⟩)
      ·intro w128 vq128 D128 hD128 hd128 hJ128
       rcases Bool.eq_false_or_eq_true (D128 0) with hb129 | hb129
       ·
        rcases Bool.eq_false_or_eq_true (D128 3) with hb130 | hb130
        ·
         rcases Bool.eq_false_or_eq_true (D128 4) with hb131 | hb131
         ·
          rcases Bool.eq_false_or_eq_true (D128 9) with hb132 | hb132
          ·obtain ⟨FJ128, ur89_0, v91, u92, he128_0, he128_3, he128_4, he128_9, leJ128, hSJ128⟩ := (hJ128 true true true true hb129 hb130 hb131 hb132);refine W_bld1 3 rfl Ty.cell3 rfl hSJ128 rfl rfl ?_;refine W_nil ?_;exact N_stepJ rfl (fun u hu => Option.some.inj hu) (fun b0 b3 b4 b9 h0 h3 h4 h9 => by obtain rfl : b0 = true := h0.symm.trans hb129; obtain rfl : b3 = true := h3.symm.trans hb130; obtain rfl : b4 = true := h4.symm.trans hb131; obtain rfl : b9 = true := h9.symm.trans hb132; exact ⟨FJ128, ur89_0, v91, u92, he128_0, he128_3, he128_4, he128_9, leJ128, hSJ128⟩)
          ·obtain ⟨FJ128, ur89_0, v91, he128_0, he128_3, he128_4, leJ128, hSJ128⟩ := (hJ128 true true true false hb129 hb130 hb131 hb132);refine W_bld1 2 rfl Ty.cell3 rfl hSJ128 rfl rfl ?_;refine W_nil ?_;exact N_stepJ rfl (fun u hu => Option.some.inj hu) (fun b0 b3 b4 b9 h0 h3 h4 h9 => by obtain rfl : b0 = true := h0.symm.trans hb129; obtain rfl : b3 = true := h3.symm.trans hb130; obtain rfl : b4 = true := h4.symm.trans hb131; obtain rfl : b9 = false := h9.symm.trans hb132; exact ⟨FJ128, ur89_0, v91, he128_0, he128_3, he128_4, leJ128, hSJ128⟩)
         ·
          rcases Bool.eq_false_or_eq_true (D128 9) with hb133 | hb133
          ·obtain ⟨FJ128, ur89_0, u92, he128_0, he128_3, he128_9, leJ128, hSJ128⟩ := (hJ128 true true false true hb129 hb130 hb131 hb133);refine W_bld1 3 rfl Ty.cell3 rfl hSJ128 rfl rfl ?_;refine W_nil ?_;exact N_stepJ rfl (fun u hu => Option.some.inj hu) (fun b0 b3 b4 b9 h0 h3 h4 h9 => by obtain rfl : b0 = true := h0.symm.trans hb129; obtain rfl : b3 = true := h3.symm.trans hb130; obtain rfl : b4 = false := h4.symm.trans hb131; obtain rfl : b9 = true := h9.symm.trans hb133; exact ⟨FJ128, ur89_0, u92, he128_0, he128_3, he128_9, leJ128, hSJ128⟩)
          ·obtain ⟨FJ128, ur89_0, he128_0, he128_3, leJ128, hSJ128⟩ := (hJ128 true true false false hb129 hb130 hb131 hb133);refine W_bld1 2 rfl Ty.cell3 rfl hSJ128 rfl rfl ?_;refine W_nil ?_;exact N_stepJ rfl (fun u hu => Option.some.inj hu) (fun b0 b3 b4 b9 h0 h3 h4 h9 => by obtain rfl : b0 = true := h0.symm.trans hb129; obtain rfl : b3 = true := h3.symm.trans hb130; obtain rfl : b4 = false := h4.symm.trans hb131; obtain rfl : b9 = false := h9.symm.trans hb133; exact ⟨FJ128, ur89_0, he128_0, he128_3, leJ128, hSJ128⟩)
        ·
         rcases Bool.eq_false_or_eq_true (D128 4) with hb134 | hb134
         ·
          rcases Bool.eq_false_or_eq_true (D128 9) with hb135 | hb135
          ·exact False.elim (hJ128 true false true true hb129 hb130 hb134 hb135)
          ·exact False.elim (hJ128 true false true false hb129 hb130 hb134 hb135)
         ·
          rcases Bool.eq_false_or_eq_true (D128 9) with hb136 | hb136
          ·obtain ⟨FJ128, u92, he128_0, he128_9, leJ128, hSJ128⟩ := (hJ128 true false false true hb129 hb130 hb134 hb136);refine W_bld1 2 rfl Ty.cell3 rfl hSJ128 rfl rfl ?_;refine W_nil ?_;exact N_stepJ rfl (fun u hu => Option.some.inj hu) (fun b0 b3 b4 b9 h0 h3 h4 h9 => by obtain rfl : b0 = true := h0.symm.trans hb129; obtain rfl : b3 = false := h3.symm.trans hb130; obtain rfl : b4 = false := h4.symm.trans hb134; obtain rfl : b9 = true := h9.symm.trans hb136; exact ⟨FJ128, u92, he128_0, he128_9, leJ128, hSJ128⟩)
          ·obtain ⟨FJ128, he128_0, leJ128, hSJ128⟩ := (hJ128 true false false false hb129 hb130 hb134 hb136);refine W_bld1 1 rfl Ty.cell3 rfl hSJ128 rfl rfl ?_;refine W_nil ?_;exact N_stepJ rfl (fun u hu => Option.some.inj hu) (fun b0 b3 b4 b9 h0 h3 h4 h9 => by obtain rfl : b0 = true := h0.symm.trans hb129; obtain rfl : b3 = false := h3.symm.trans hb130; obtain rfl : b4 = false := h4.symm.trans hb134; obtain rfl : b9 = false := h9.symm.trans hb136; exact ⟨FJ128, he128_0, leJ128, hSJ128⟩)
       ·
        rcases Bool.eq_false_or_eq_true (D128 3) with hb137 | hb137
        ·
         rcases Bool.eq_false_or_eq_true (D128 4) with hb138 | hb138
         ·
          rcases Bool.eq_false_or_eq_true (D128 9) with hb139 | hb139
          ·exact False.elim (hJ128 false true true true hb129 hb137 hb138 hb139)
          ·exact False.elim (hJ128 false true true false hb129 hb137 hb138 hb139)
         ·
          rcases Bool.eq_false_or_eq_true (D128 9) with hb140 | hb140
          ·obtain ⟨FJ128, ur89_0, u92, he128_3, he128_9, leJ128, hSJ128⟩ := (hJ128 false true false true hb129 hb137 hb138 hb140);refine W_bld1 3 rfl Ty.cell3 rfl hSJ128 rfl rfl ?_;refine W_nil ?_;exact N_stepJ rfl (fun u hu => Option.some.inj hu) (fun b0 b3 b4 b9 h0 h3 h4 h9 => by obtain rfl : b0 = false := h0.symm.trans hb129; obtain rfl : b3 = true := h3.symm.trans hb137; obtain rfl : b4 = false := h4.symm.trans hb138; obtain rfl : b9 = true := h9.symm.trans hb140; exact ⟨FJ128, ur89_0, u92, he128_3, he128_9, leJ128, hSJ128⟩)
          ·obtain ⟨FJ128, ur89_0, he128_3, leJ128, hSJ128⟩ := (hJ128 false true false false hb129 hb137 hb138 hb140);refine W_bld1 2 rfl Ty.cell3 rfl hSJ128 rfl rfl ?_;refine W_nil ?_;exact N_stepJ rfl (fun u hu => Option.some.inj hu) (fun b0 b3 b4 b9 h0 h3 h4 h9 => by obtain rfl : b0 = false := h0.symm.trans hb129; obtain rfl : b3 = true := h3.symm.trans hb137; obtain rfl : b4 = false := h4.symm.trans hb138; obtain rfl : b9 = false := h9.symm.trans hb140; exact ⟨FJ128, ur89_0, he128_3, leJ128, hSJ128⟩)
        ·
         rcases Bool.eq_false_or_eq_true (D128 4) with hb141 | hb141
         ·
          rcases Bool.eq_false_or_eq_true (D128 9) with hb142 | hb142
          ·exact False.elim (hJ128 false false true true hb129 hb137 hb141 hb142)
          ·exact False.elim (hJ128 false false true false hb129 hb137 hb141 hb142)
         ·
          rcases Bool.eq_false_or_eq_true (D128 9) with hb143 | hb143
          ·obtain ⟨FJ128, u92, he128_9, leJ128, hSJ128⟩ := (hJ128 false false false true hb129 hb137 hb141 hb143);refine W_bld1 2 rfl Ty.cell3 rfl hSJ128 rfl rfl ?_;refine W_nil ?_;exact N_stepJ rfl (fun u hu => Option.some.inj hu) (fun b0 b3 b4 b9 h0 h3 h4 h9 => by obtain rfl : b0 = false := h0.symm.trans hb129; obtain rfl : b3 = false := h3.symm.trans hb137; obtain rfl : b4 = false := h4.symm.trans hb141; obtain rfl : b9 = true := h9.symm.trans hb143; exact ⟨FJ128, u92, he128_9, leJ128, hSJ128⟩)
          ·obtain ⟨FJ128, leJ128, hSJ128⟩ := (hJ128 false false false false hb129 hb137 hb141 hb143);refine W_bld1 1 rfl Ty.cell3 rfl hSJ128 rfl rfl ?_;refine W_nil ?_;exact N_stepJ rfl (fun u hu => Option.some.inj hu) (fun b0 b3 b4 b9 h0 h3 h4 h9 => by obtain rfl : b0 = false := h0.symm.trans hb129; obtain rfl : b3 = false := h3.symm.trans hb137; obtain rfl : b4 = false := h4.symm.trans hb141; obtain rfl : b9 = false := h9.symm.trans hb143; exact ⟨FJ128, leJ128, hSJ128⟩)
      ·intro w144 vq144 D144 hD144 hd144 hJ144
       rcases Bool.eq_false_or_eq_true (D144 0) with hb145 | hb145
       ·
        rcases Bool.eq_false_or_eq_true (D144 4) with hb146 | hb146
        ·
         rcases Bool.eq_false_or_eq_true (D144 9) with hb147 | hb147
         ·exact False.elim (hJ144 true false true true hb145 hD144 hb146 hb147)
         ·exact False.elim (hJ144 true false true false hb145 hD144 hb146 hb147)
        ·
         rcases Bool.eq_false_or_eq_true (D144 9) with hb148 | hb148
         ·obtain ⟨FJ144, u92, he144_0, he144_9, leJ144, hSJ144⟩ := (hJ144 true false false true hb145 hD144 hb146 hb148);refine W_call rfl Ty.named87 rfl (cellarerref14_be_ok hSJ144.agree hr89) ?_;rintro ur89_0 w149 ⟨Fr89, _, rfl, hT149⟩;have hS149 := hSJ144.call hT149;have ler89 := hT149.ext;refine W_nil ?_;exact N_stepJ rfl (fun u (hu : (none : Option Value) = some u) => by cases hu) (fun b0 b3 b4 b9 h0 h3 h4 h9 => by obtain rfl : b0 = true := h0.symm.trans hb145; obtain rfl : b3 = true := h3.symm; obtain rfl : b4 = false := h4.symm.trans hb146; obtain rfl : b9 = true := h9.symm.trans hb148; exact ⟨Fr89, ur89_0, u92, he144_0, rfl, he144_9, (leJ144.trans ler89), hS149.pick [1, 0, 2, 3, 4, 5] (by decide)⟩)
         ·obtain ⟨FJ144, he144_0, leJ144, hSJ144⟩ := (hJ144 true false false false hb145 hD144 hb146 hb148);refine W_call rfl Ty.named87 rfl (cellarerref14_be_ok hSJ144.agree hr89) ?_;rintro ur89_0 w150 ⟨Fr89, _, rfl, hT150⟩;have hS150 := hSJ144.call hT150;have ler89 := hT150.ext;refine W_nil ?_;exact N_stepJ rfl (fun u (hu : (none : Option Value) = some u) => by cases hu) (fun b0 b3 b4 b9 h0 h3 h4 h9 => by obtain rfl : b0 = true := h0.symm.trans hb145; obtain rfl : b3 = true := h3.symm; obtain rfl : b4 = false := h4.symm.trans hb146; obtain rfl : b9 = false := h9.symm.trans hb148; exact ⟨Fr89, ur89_0, he144_0, rfl, (leJ144.trans ler89), hS150⟩)
       ·
        rcases Bool.eq_false_or_eq_true (D144 4) with hb151 | hb151
        ·
         rcases Bool.eq_false_or_eq_true (D144 9) with hb152 | hb152
         ·exact False.elim (hJ144 false false true true hb145 hD144 hb151 hb152)
         ·exact False.elim (hJ144 false false true false hb145 hD144 hb151 hb152)
        ·
         rcases Bool.eq_false_or_eq_true (D144 9) with hb153 | hb153
         ·obtain ⟨FJ144, u92, he144_9, leJ144, hSJ144⟩ := (hJ144 false false false true hb145 hD144 hb151 hb153);refine W_call rfl Ty.named87 rfl (cellarerref14_be_ok hSJ144.agree hr89) ?_;rintro ur89_0 w154 ⟨Fr89, _, rfl, hT154⟩;have hS154 := hSJ144.call hT154;have ler89 := hT154.ext;refine W_nil ?_;exact N_stepJ rfl (fun u (hu : (none : Option Value) = some u) => by cases hu) (fun b0 b3 b4 b9 h0 h3 h4 h9 => by obtain rfl : b0 = false := h0.symm.trans hb145; obtain rfl : b3 = true := h3.symm; obtain rfl : b4 = false := h4.symm.trans hb151; obtain rfl : b9 = true := h9.symm.trans hb153; exact ⟨Fr89, ur89_0, u92, rfl, he144_9, (leJ144.trans ler89), hS154.pick [1, 0, 2, 3, 4, 5] (by decide)⟩)
         ·obtain ⟨FJ144, leJ144, hSJ144⟩ := (hJ144 false false false false hb145 hD144 hb151 hb153);refine W_call rfl Ty.named87 rfl (cellarerref14_be_ok hSJ144.agree hr89) ?_;rintro ur89_0 w155 ⟨Fr89, _, rfl, hT155⟩;have hS155 := hSJ144.call hT155;have ler89 := hT155.ext;refine W_nil ?_;exact N_stepJ rfl (fun u (hu : (none : Option Value) = some u) => by cases hu) (fun b0 b3 b4 b9 h0 h3 h4 h9 => by obtain rfl : b0 = false := h0.symm.trans hb145; obtain rfl : b3 = true := h3.symm; obtain rfl : b4 = false := h4.symm.trans hb151; obtain rfl : b9 = false := h9.symm.trans hb153; exact ⟨Fr89, ur89_0, rfl, (leJ144.trans ler89), hS155⟩)
      ·intro w156 vq156 D156 hD156 hd156 hJ156
       rcases Bool.eq_false_or_eq_true (D156 9) with hb157 | hb157
       ·obtain ⟨FJ156, ur89_0, u92, he156_0, he156_3, he156_9, leJ156, hSJ156⟩ := (hJ156 true true false true (hd156 0 (by decide)) (hd156 3 (by decide)) hD156 hb157);refine W_eqv (t := 44) rfl he156_0 ?_;refine W_eqv (t := 47) rfl he156_3 ?_;refine W_appM 4 rfl Try.underlying25 Ty.row5 rfl rfl rfl rfl rfl hSJ156 rfl (hSJ156.rowSrc (j := 1) rfl) hl90 ?_;intro v91 w91 hS91;refine W_nil ?_;exact N_stepJ rfl (fun u (hu : (none : Option Value) = some u) => by cases hu) (fun b0 b3 b4 b9 h0 h3 h4 h9 => by obtain rfl : b0 = true := h0.symm.trans (hd156 0 (by decide)); obtain rfl : b3 = true := h3.symm.trans (hd156 3 (by decide)); obtain rfl : b4 = true := h4.symm; obtain rfl : b9 = true := h9.symm.trans hb157; exact ⟨FJ156, ur89_0, v91, u92, he156_0, he156_3, rfl, he156_9, leJ156, hS91⟩)
       ·obtain ⟨FJ156, ur89_0, he156_0, he156_3, leJ156, hSJ156⟩ := (hJ156 true true false false (hd156 0 (by decide)) (hd156 3 (by decide)) hD156 hb157);refine W_eqv (t := 44) rfl he156_0 ?_;refine W_eqv (t := 47) rfl he156_3 ?_;refine W_appM 3 rfl Try.underlying25 Ty.row5 rfl rfl rfl rfl rfl hSJ156 rfl (hSJ156.rowSrc (j := 0) rfl) hl90 ?_;intro v91 w91 hS91;refine W_nil ?_;exact N_stepJ rfl (fun u (hu : (none : Option Value) = some u) => by cases hu) (fun b0 b3 b4 b9 h0 h3 h4 h9 => by obtain rfl : b0 = true := h0.symm.trans (hd156 0 (by decide)); obtain rfl : b3 = true := h3.symm.trans (hd156 3 (by decide)); obtain rfl : b4 = true := h4.symm; obtain rfl : b9 = false := h9.symm.trans hb157; exact ⟨FJ156, ur89_0, v91, he156_0, he156_3, rfl, leJ156, hS91⟩)
      ·intro w158 vq158 D158 hD158 hd158 hJ158
       rcases Bool.eq_false_or_eq_true (D158 0) with hb159 | hb159
       ·
        rcases Bool.eq_false_or_eq_true (D158 3) with hb160 | hb160
        ·
         rcases Bool.eq_false_or_eq_true (D158 4) with hb161 | hb161
         ·
          rcases Bool.eq_false_or_eq_true (D158 9) with hb162 | hb162
          ·obtain ⟨FJ158, ur89_0, v91, u92, he158_0, he158_3, he158_4, he158_9, leJ158, hSJ158⟩ := (hJ158 true true true true hb159 hb160 hb161 hb162);refine W_field_pl 2 rfl Ty.field51_2 rfl ?_;refine W_nil ?_;exact N_stepJ rfl (fun u hu => Option.some.inj hu) (fun b0 b3 b4 b9 h0 h3 h4 h9 => by obtain rfl : b0 = true := h0.symm.trans hb159; obtain rfl : b3 = true := h3.symm.trans hb160; obtain rfl : b4 = true := h4.symm.trans hb161; obtain rfl : b9 = true := h9.symm.trans hb162; exact ⟨FJ158, ur89_0, v91, u92, he158_0, he158_3, he158_4, he158_9, leJ158, hSJ158⟩)
          ·obtain ⟨FJ158, ur89_0, v91, he158_0, he158_3, he158_4, leJ158, hSJ158⟩ := (hJ158 true true true false hb159 hb160 hb161 hb162);refine W_field_pl 2 rfl Ty.field51_2 rfl ?_;refine W_nil ?_;exact N_stepJ rfl (fun u hu => Option.some.inj hu) (fun b0 b3 b4 b9 h0 h3 h4 h9 => by obtain rfl : b0 = true := h0.symm.trans hb159; obtain rfl : b3 = true := h3.symm.trans hb160; obtain rfl : b4 = true := h4.symm.trans hb161; obtain rfl : b9 = false := h9.symm.trans hb162; exact ⟨FJ158, ur89_0, v91, he158_0, he158_3, he158_4, leJ158, hSJ158⟩)
         ·
          rcases Bool.eq_false_or_eq_true (D158 9) with hb163 | hb163
          ·obtain ⟨FJ158, ur89_0, u92, he158_0, he158_3, he158_9, leJ158, hSJ158⟩ := (hJ158 true true false true hb159 hb160 hb161 hb163);refine W_field_pl 2 rfl Ty.field51_2 rfl ?_;refine W_nil ?_;exact N_stepJ rfl (fun u hu => Option.some.inj hu) (fun b0 b3 b4 b9 h0 h3 h4 h9 => by obtain rfl : b0 = true := h0.symm.trans hb159; obtain rfl : b3 = true := h3.symm.trans hb160; obtain rfl : b4 = false := h4.symm.trans hb161; obtain rfl : b9 = true := h9.symm.trans hb163; exact ⟨FJ158, ur89_0, u92, he158_0, he158_3, he158_9, leJ158, hSJ158⟩)
          ·obtain ⟨FJ158, ur89_0, he158_0, he158_3, leJ158, hSJ158⟩ := (hJ158 true true false false hb159 hb160 hb161 hb163);refine W_field_pl 2 rfl Ty.field51_2 rfl ?_;refine W_nil ?_;exact N_stepJ rfl (fun u hu => Option.some.inj hu) (fun b0 b3 b4 b9 h0 h3 h4 h9 => by obtain rfl : b0 = true := h0.symm.trans hb159; obtain rfl : b3 = true := h3.symm.trans hb160; obtain rfl : b4 = false := h4.symm.trans hb161; obtain rfl : b9 = false := h9.symm.trans hb163; exact ⟨FJ158, ur89_0, he158_0, he158_3, leJ158, hSJ158⟩)
        ·
         rcases Bool.eq_false_or_eq_true (D158 4) with hb164 | hb164
         ·
          rcases Bool.eq_false_or_eq_true (D158 9) with hb165 | hb165
          ·exact False.elim (hJ158 true false true true hb159 hb160 hb164 hb165)
          ·exact False.elim (hJ158 true false true false hb159 hb160 hb164 hb165)
         ·
          rcases Bool.eq_false_or_eq_true (D158 9) with hb166 | hb166
          ·obtain ⟨FJ158, u92, he158_0, he158_9, leJ158, hSJ158⟩ := (hJ158 true false false true hb159 hb160 hb164 hb166);refine W_field_pl 2 rfl Ty.field51_2 rfl ?_;refine W_nil ?_;exact N_stepJ rfl (fun u hu => Option.some.inj hu) (fun b0 b3 b4 b9 h0 h3 h4 h9 => by obtain rfl : b0 = true := h0.symm.trans hb159; obtain rfl : b3 = false := h3.symm.trans hb160; obtain rfl : b4 = false := h4.symm.trans hb164; obtain rfl : b9 = true := h9.symm.trans hb166; exact ⟨FJ158, u92, he158_0, he158_9, leJ158, hSJ158⟩)
          ·obtain ⟨FJ158, he158_0, leJ158, hSJ158⟩ := (hJ158 true false false false hb159 hb160 hb164 hb166);refine W_field_pl 2 rfl Ty.field51_2 rfl ?_;refine W_nil ?_;exact N_stepJ rfl (fun u hu => Option.some.inj hu) (fun b0 b3 b4 b9 h0 h3 h4 h9 => by obtain rfl : b0 = true := h0.symm.trans hb159; obtain rfl : b3 = false := h3.symm.trans hb160; obtain rfl : b4 = false := h4.symm.trans hb164; obtain rfl : b9 = false := h9.symm.trans hb166; exact ⟨FJ158, he158_0, leJ158, hSJ158⟩)
       ·
        rcases Bool.eq_false_or_eq_true (D158 3) with hb167 | hb167
        ·
         rcases Bool.eq_false_or_eq_true (D158 4) with hb168 | hb168
         ·
          rcases Bool.eq_false_or_eq_true (D158 9) with hb169 | hb169
          ·exact False.elim (hJ158 false true true true hb159 hb167 hb168 hb169)
          ·exact False.elim (hJ158 false true true false hb159 hb167 hb168 hb169)
         ·
          rcases Bool.eq_false_or_eq_true (D158 9) with hb170 | hb170
          ·obtain ⟨FJ158, ur89_0, u92, he158_3, he158_9, leJ158, hSJ158⟩ := (hJ158 false true false true hb159 hb167 hb168 hb170);refine W_field_pl 2 rfl Ty.field51_2 rfl ?_;refine W_nil ?_;exact N_stepJ rfl (fun u hu => Option.some.inj hu) (fun b0 b3 b4 b9 h0 h3 h4 h9 => by obtain rfl : b0 = false := h0.symm.trans hb159; obtain rfl : b3 = true := h3.symm.trans hb167; obtain rfl : b4 = false := h4.symm.trans hb168; obtain rfl : b9 = true := h9.symm.trans hb170; exact ⟨FJ158, ur89_0, u92, he158_3, he158_9, leJ158, hSJ158⟩)
          ·obtain ⟨FJ158, ur89_0, he158_3, leJ158, hSJ158⟩ := (hJ158 false true false false hb159 hb167 hb168 hb170);refine W_field_pl 2 rfl Ty.field51_2 rfl ?_;refine W_nil ?_;exact N_stepJ rfl (fun u hu => Option.some.inj hu) (fun b0 b3 b4 b9 h0 h3 h4 h9 => by obtain rfl : b0 = false := h0.symm.trans hb159; obtain rfl : b3 = true := h3.symm.trans hb167; obtain rfl : b4 = false := h4.symm.trans hb168; obtain rfl : b9 = false := h9.symm.trans hb170; exact ⟨FJ158, ur89_0, he158_3, leJ158, hSJ158⟩)
        ·
         rcases Bool.eq_false_or_eq_true (D158 4) with hb171 | hb171
         ·
          rcases Bool.eq_false_or_eq_true (D158 9) with hb172 | hb172
          ·exact False.elim (hJ158 false false true true hb159 hb167 hb171 hb172)
          ·exact False.elim (hJ158 false false true false hb159 hb167 hb171 hb172)
         ·
          rcases Bool.eq_false_or_eq_true (D158 9) with hb173 | hb173
          ·obtain ⟨FJ158, u92, he158_9, leJ158, hSJ158⟩ := (hJ158 false false false true hb159 hb167 hb171 hb173);refine W_field_pl 2 rfl Ty.field51_2 rfl ?_;refine W_nil ?_;exact N_stepJ rfl (fun u hu => Option.some.inj hu) (fun b0 b3 b4 b9 h0 h3 h4 h9 => by obtain rfl : b0 = false := h0.symm.trans hb159; obtain rfl : b3 = false := h3.symm.trans hb167; obtain rfl : b4 = false := h4.symm.trans hb171; obtain rfl : b9 = true := h9.symm.trans hb173; exact ⟨FJ158, u92, he158_9, leJ158, hSJ158⟩)
          ·obtain ⟨FJ158, leJ158, hSJ158⟩ := (hJ158 false false false false hb159 hb167 hb171 hb173);refine W_field_pl 2 rfl Ty.field51_2 rfl ?_;refine W_nil ?_;exact N_stepJ rfl (fun u hu => Option.some.inj hu) (fun b0 b3 b4 b9 h0 h3 h4 h9 => by obtain rfl : b0 = false := h0.symm.trans hb159; obtain rfl : b3 = false := h3.symm.trans hb167; obtain rfl : b4 = false := h4.symm.trans hb171; obtain rfl : b9 = false := h9.symm.trans hb173; exact ⟨FJ158, leJ158, hSJ158⟩)
      ·intro w174 vq174 D174 hD174 hd174 hJ174
       rcases Bool.eq_false_or_eq_true (D174 0) with hb175 | hb175
       ·
        rcases Bool.eq_false_or_eq_true (D174 3) with hb176 | hb176
        ·
         rcases Bool.eq_false_or_eq_true (D174 4) with hb177 | hb177
         ·
          rcases Bool.eq_false_or_eq_true (D174 9) with hb178 | hb178
          ·obtain ⟨FJ174, ur89_0, v91, u92, he174_0, he174_3, he174_4, he174_9, leJ174, hSJ174⟩ := (hJ174 true true true true hb175 hb176 hb177 hb178);refine W_bld1 3 rfl Ty.cell49 rfl hSJ174 rfl rfl ?_;refine W_nil ?_;exact N_stepJ rfl (fun u hu => Option.some.inj hu) (fun b0 b3 b4 b9 h0 h3 h4 h9 => by obtain rfl : b0 = true := h0.symm.trans hb175; obtain rfl : b3 = true := h3.symm.trans hb176; obtain rfl : b4 = true := h4.symm.trans hb177; obtain rfl : b9 = true := h9.symm.trans hb178; exact ⟨FJ174, ur89_0, v91, u92, he174_0, he174_3, he174_4, he174_9, leJ174, hSJ174⟩)
          ·obtain ⟨FJ174, ur89_0, v91, he174_0, he174_3, he174_4, leJ174, hSJ174⟩ := (hJ174 true true true false hb175 hb176 hb177 hb178);refine W_bld1 2 rfl Ty.cell49 rfl hSJ174 rfl rfl ?_;refine W_nil ?_;exact N_stepJ rfl (fun u hu => Option.some.inj hu) (fun b0 b3 b4 b9 h0 h3 h4 h9 => by obtain rfl : b0 = true := h0.symm.trans hb175; obtain rfl : b3 = true := h3.symm.trans hb176; obtain rfl : b4 = true := h4.symm.trans hb177; obtain rfl : b9 = false := h9.symm.trans hb178; exact ⟨FJ174, ur89_0, v91, he174_0, he174_3, he174_4, leJ174, hSJ174⟩)
         ·
          rcases Bool.eq_false_or_eq_true (D174 9) with hb179 | hb179
          ·obtain ⟨FJ174, ur89_0, u92, he174_0, he174_3, he174_9, leJ174, hSJ174⟩ := (hJ174 true true false true hb175 hb176 hb177 hb179);refine W_bld1 3 rfl Ty.cell49 rfl hSJ174 rfl rfl ?_;refine W_nil ?_;exact N_stepJ rfl (fun u hu => Option.some.inj hu) (fun b0 b3 b4 b9 h0 h3 h4 h9 => by obtain rfl : b0 = true := h0.symm.trans hb175; obtain rfl : b3 = true := h3.symm.trans hb176; obtain rfl : b4 = false := h4.symm.trans hb177; obtain rfl : b9 = true := h9.symm.trans hb179; exact ⟨FJ174, ur89_0, u92, he174_0, he174_3, he174_9, leJ174, hSJ174⟩)
          ·obtain ⟨FJ174, ur89_0, he174_0, he174_3, leJ174, hSJ174⟩ := (hJ174 true true false false hb175 hb176 hb177 hb179);refine W_bld1 2 rfl Ty.cell49 rfl hSJ174 rfl rfl ?_;refine W_nil ?_;exact N_stepJ rfl (fun u hu => Option.some.inj hu) (fun b0 b3 b4 b9 h0 h3 h4 h9 => by obtain rfl : b0 = true := h0.symm.trans hb175; obtain rfl : b3 = true := h3.symm.trans hb176; obtain rfl : b4 = false := h4.symm.trans hb177; obtain rfl : b9 = false := h9.symm.trans hb179; exact ⟨FJ174, ur89_0, he174_0, he174_3, leJ174, hSJ174⟩)
        ·
         rcases Bool.eq_false_or_eq_true (D174 4) with hb180 | hb180
         ·
          rcases Bool.eq_false_or_eq_true (D174 9) with hb181 | hb181
          ·exact False.elim (hJ174 true false true true hb175 hb176 hb180 hb181)
          ·exact False.elim (hJ174 true false true false hb175 hb176 hb180 hb181)
         ·
          rcases Bool.eq_false_or_eq_true (D174 9) with hb182 | hb182
          ·obtain ⟨FJ174, u92, he174_0, he174_9, leJ174, hSJ174⟩ := (hJ174 true false false true hb175 hb176 hb180 hb182);refine W_bld1 2 rfl Ty.cell49 rfl hSJ174 rfl rfl ?_;refine W_nil ?_;exact N_stepJ rfl (fun u hu => Option.some.inj hu) (fun b0 b3 b4 b9 h0 h3 h4 h9 => by obtain rfl : b0 = true := h0.symm.trans hb175; obtain rfl : b3 = false := h3.symm.trans hb176; obtain rfl : b4 = false := h4.symm.trans hb180; obtain rfl : b9 = true := h9.symm.trans hb182; exact ⟨FJ174, u92, he174_0, he174_9, leJ174, hSJ174⟩)
          ·obtain ⟨FJ174, he174_0, leJ174, hSJ174⟩ := (hJ174 true false false false hb175 hb176 hb180 hb182);refine W_bld1 1 rfl Ty.cell49 rfl hSJ174 rfl rfl ?_;refine W_nil ?_;exact N_stepJ rfl (fun u hu => Option.some.inj hu) (fun b0 b3 b4 b9 h0 h3 h4 h9 => by obtain rfl : b0 = true := h0.symm.trans hb175; obtain rfl : b3 = false := h3.symm.trans hb176; obtain rfl : b4 = false := h4.symm.trans hb180; obtain rfl : b9 = false := h9.symm.trans hb182; exact ⟨FJ174, he174_0, leJ174, hSJ174⟩)
       ·
        rcases Bool.eq_false_or_eq_true (D174 3) with hb183 | hb183
        ·
         rcases Bool.eq_false_or_eq_true (D174 4) with hb184 | hb184
         ·
          rcases Bool.eq_false_or_eq_true (D174 9) with hb185 | hb185
          ·exact False.elim (hJ174 false true true true hb175 hb183 hb184 hb185)
          ·exact False.elim (hJ174 false true true false hb175 hb183 hb184 hb185)
         ·
          rcases Bool.eq_false_or_eq_true (D174 9) with hb186 | hb186
          ·obtain ⟨FJ174, ur89_0, u92, he174_3, he174_9, leJ174, hSJ174⟩ := (hJ174 false true false true hb175 hb183 hb184 hb186);refine W_bld1 3 rfl Ty.cell49 rfl hSJ174 rfl rfl ?_;refine W_nil ?_;exact N_stepJ rfl (fun u hu => Option.some.inj hu) (fun b0 b3 b4 b9 h0 h3 h4 h9 => by obtain rfl : b0 = false := h0.symm.trans hb175; obtain rfl : b3 = true := h3.symm.trans hb183; obtain rfl : b4 = false := h4.symm.trans hb184; obtain rfl : b9 = true := h9.symm.trans hb186; exact ⟨FJ174, ur89_0, u92, he174_3, he174_9, leJ174, hSJ174⟩)
          ·obtain ⟨FJ174, ur89_0, he174_3, leJ174, hSJ174⟩ := (hJ174 false true false false hb175 hb183 hb184 hb186);refine W_bld1 2 rfl Ty.cell49 rfl hSJ174 rfl rfl ?_;refine W_nil ?_;exact N_stepJ rfl (fun u hu => Option.some.inj hu) (fun b0 b3 b4 b9 h0 h3 h4 h9 => by obtain rfl : b0 = false := h0.symm.trans hb175; obtain rfl : b3 = true := h3.symm.trans hb183; obtain rfl : b4 = false := h4.symm.trans hb184; obtain rfl : b9 = false := h9.symm.trans hb186; exact ⟨FJ174, ur89_0, he174_3, leJ174, hSJ174⟩)
        ·
         rcases Bool.eq_false_or_eq_true (D174 4) with hb187 | hb187
         ·
          rcases Bool.eq_false_or_eq_true (D174 9) with hb188 | hb188
          ·exact False.elim (hJ174 false false true true hb175 hb183 hb187 hb188)
          ·exact False.elim (hJ174 false false true false hb175 hb183 hb187 hb188)
         ·
          rcases Bool.eq_false_or_eq_true (D174 9) with hb189 | hb189
          ·obtain ⟨FJ174, u92, he174_9, leJ174, hSJ174⟩ := (hJ174 false false false true hb175 hb183 hb187 hb189);refine W_bld1 2 rfl Ty.cell49 rfl hSJ174 rfl rfl ?_;refine W_nil ?_;exact N_stepJ rfl (fun u hu => Option.some.inj hu) (fun b0 b3 b4 b9 h0 h3 h4 h9 => by obtain rfl : b0 = false := h0.symm.trans hb175; obtain rfl : b3 = false := h3.symm.trans hb183; obtain rfl : b4 = false := h4.symm.trans hb187; obtain rfl : b9 = true := h9.symm.trans hb189; exact ⟨FJ174, u92, he174_9, leJ174, hSJ174⟩)
          ·obtain ⟨FJ174, leJ174, hSJ174⟩ := (hJ174 false false false false hb175 hb183 hb187 hb189);refine W_bld1 1 rfl Ty.cell49 rfl hSJ174 rfl rfl ?_;refine W_nil ?_;exact N_stepJ rfl (fun u hu => Option.some.inj hu) (fun b0 b3 b4 b9 h0 h3 h4 h9 => by obtain rfl : b0 = false := h0.symm.trans hb175; obtain rfl : b3 = false := h3.symm.trans hb183; obtain rfl : b4 = false := h4.symm.trans hb187; obtain rfl : b9 = false := h9.symm.trans hb189; exact ⟨FJ174, leJ174, hSJ174⟩)
      ·intro w190 vq190 D190 hD190 hd190 hJ190
       rcases Bool.eq_false_or_eq_true (D190 0) with hb191 | hb191
       ·
        rcases Bool.eq_false_or_eq_true (D190 3) with hb192 | hb192
        ·
         rcases Bool.eq_false_or_eq_true (D190 4) with hb193 | hb193
         ·
          rcases Bool.eq_false_or_eq_true (D190 9) with hb194 | hb194
          ·obtain ⟨FJ190, ur89_0, v91, u92, he190_0, he190_3, he190_4, he190_9, leJ190, hSJ190⟩ := (hJ190 true true true true hb191 hb192 hb193 hb194);refine W_lenv rfl Try.underlying49 rfl hue21_0.ln ?_;refine W_nil ?_;exact N_stepJ rfl (fun u hu => Option.some.inj hu) (fun b0 b3 b4 b9 h0 h3 h4 h9 => by obtain rfl : b0 = true := h0.symm.trans hb191; obtain rfl : b3 = true := h3.symm.trans hb192; obtain rfl : b4 = true := h4.symm.trans hb193; obtain rfl : b9 = true := h9.symm.trans hb194; exact ⟨FJ190, ur89_0, v91, u92, he190_0, he190_3, he190_4, he190_9, leJ190, hSJ190⟩)
          ·obtain ⟨FJ190, ur89_0, v91, he190_0, he190_3, he190_4, leJ190, hSJ190⟩ := (hJ190 true true true false hb191 hb192 hb193 hb194);refine W_lenv rfl Try.underlying49 rfl hue21_0.ln ?_;refine W_nil ?_;exact N_stepJ rfl (fun u hu => Option.some.inj hu) (fun b0 b3 b4 b9 h0 h3 h4 h9 => by obtain rfl : b0 = true := h0.symm.trans hb191; obtain rfl : b3 = true := h3.symm.trans hb192; obtain rfl : b4 = true := h4.symm.trans hb193; obtain rfl : b9 = false := h9.symm.trans hb194; exact ⟨FJ190, ur89_0, v91, he190_0, he190_3, he190_4, leJ190, hSJ190⟩)
         ·
          rcases Bool.eq_false_or_eq_true (D190 9) with hb195 | hb195
          ·obtain ⟨FJ190, ur89_0, u92, he190_0, he190_3, he190_9, leJ190, hSJ190⟩ := (hJ190 true true false true hb191 hb192 hb193 hb195);refine W_lenv rfl Try.underlying49 rfl hue21_0.ln ?_;refine W_nil ?_;exact N_stepJ rfl (fun u hu => Option.some.inj hu) (fun b0 b3 b4 b9 h0 h3 h4 h9 => by obtain rfl : b0 = true := h0.symm.trans hb191; obtain rfl : b3 = true := h3.symm.trans hb192; obtain rfl : b4 = false := h4.symm.trans hb193; obtain rfl : b9 = true := h9.symm.trans hb195; exact ⟨FJ190, ur89_0, u92, he190_0, he190_3, he190_9, leJ190, hSJ190⟩)
          ·obtain ⟨FJ190, ur89_0, he190_0, he190_3, leJ190, hSJ190⟩ := (hJ190 true true false false hb191 hb192 hb193 hb195);refine W_lenv rfl Try.underlying49 rfl hue21_0.ln ?_;refine W_nil ?_;exact N_stepJ rfl (fun u hu => Option.some.inj hu) (fun b0 b3 b4 b9 h0 h3 h4 h9 => by obtain rfl : b0 = true := h0.symm.trans hb191; obtain rfl : b3 = true := h3.symm.trans hb192; obtain rfl : b4 = false := h4.symm.trans hb193; obtain rfl : b9 = false := h9.symm.trans hb195; exact ⟨FJ190, ur89_0, he190_0, he190_3, leJ190, hSJ190⟩)
        ·
         rcases Bool.eq_false_or_eq_true (D190 4) with hb196 | hb196
         ·
          rcases Bool.eq_false_or_eq_true (D190 9) with hb197 | hb197
          ·exact False.elim (hJ190 true false true true hb191 hb192 hb196 hb197)
          ·exact False.elim (hJ190 true false true false hb191 hb192 hb196 hb197)
         ·
          rcases Bool.eq_false_or_eq_true (D190 9) with hb198 | hb198
          ·obtain ⟨FJ190, u92, he190_0, he190_9, leJ190, hSJ190⟩ := (hJ190 true false false true hb191 hb192 hb196 hb198);refine W_lenv rfl Try.underlying49 rfl hue21_0.ln ?_;refine W_nil ?_;exact N_stepJ rfl (fun u hu => Option.some.inj hu) (fun b0 b3 b4 b9 h0 h3 h4 h9 => by obtain rfl : b0 = true := h0.symm.trans hb191; obtain rfl : b3 = false := h3.symm.trans hb192; obtain rfl : b4 = false := h4.symm.trans hb196; obtain rfl : b9 = true := h9.symm.trans hb198; exact ⟨FJ190, u92, he190_0, he190_9, leJ190, hSJ190⟩)
          ·obtain ⟨FJ190, he190_0, leJ190, hSJ190⟩ := (hJ190 true false false false hb191 hb192 hb196 hb198);refine W_lenv rfl Try.underlying49 rfl hue21_0.ln ?_;refine W_nil ?_;exact N_stepJ rfl (fun u hu => Option.some.inj hu) (fun b0 b3 b4 b9 h0 h3 h4 h9 => by obtain rfl : b0 = true := h0.symm.trans hb191; obtain rfl : b3 = false := h3.symm.trans hb192; obtain rfl : b4 = false := h4.symm.trans hb196; obtain rfl : b9 = false := h9.symm.trans hb198; exact ⟨FJ190, he190_0, leJ190, hSJ190⟩)
       ·
        rcases Bool.eq_false_or_eq_true (D190 3) with hb199 | hb199
        ·
         rcases Bool.eq_false_or_eq_true (D190 4) with hb200 | hb200
         ·
          rcases Bool.eq_false_or_eq_true (D190 9) with hb201 | hb201
          ·exact False.elim (hJ190 false true true true hb191 hb199 hb200 hb201)
          ·exact False.elim (hJ190 false true true false hb191 hb199 hb200 hb201)
         ·
          rcases Bool.eq_false_or_eq_true (D190 9) with hb202 | hb202
          ·obtain ⟨FJ190, ur89_0, u92, he190_3, he190_9, leJ190, hSJ190⟩ := (hJ190 false true false true hb191 hb199 hb200 hb202);refine W_lenv rfl Try.underlying49 rfl hue21_0.ln ?_;refine W_nil ?_;exact N_stepJ rfl (fun u hu => Option.some.inj hu) (fun b0 b3 b4 b9 h0 h3 h4 h9 => by obtain rfl : b0 = false := h0.symm.trans hb191; obtain rfl : b3 = true := h3.symm.trans hb199; obtain rfl : b4 = false := h4.symm.trans hb200; obtain rfl : b9 = true := h9.symm.trans hb202; exact ⟨FJ190, ur89_0, u92, he190_3, he190_9, leJ190, hSJ190⟩)
          ·obtain ⟨FJ190, ur89_0, he190_3, leJ190, hSJ190⟩ := (hJ190 false true false false hb191 hb199 hb200 hb202);refine W_lenv rfl Try.underlying49 rfl hue21_0.ln ?_;refine W_nil ?_;exact N_stepJ rfl (fun u hu => Option.some.inj hu) (fun b0 b3 b4 b9 h0 h3 h4 h9 => by obtain rfl : b0 = false := h0.symm.trans hb191; obtain rfl : b3 = true := h3.symm.trans hb199; obtain rfl : b4 = false := h4.symm.trans hb200; obtain rfl : b9 = false := h9.symm.trans hb202; exact ⟨FJ190, ur89_0, he190_3, leJ190, hSJ190⟩)
        ·
         rcases Bool.eq_false_or_eq_true (D190 4) with hb203 | hb203
         ·
          rcases Bool.eq_false_or_eq_true (D190 9) with hb204 | hb204
          ·exact False.elim (hJ190 false false true true hb191 hb199 hb203 hb204)
          ·exact False.elim (hJ190 false false true false hb191 hb199 hb203 hb204)
         ·
          rcases Bool.eq_false_or_eq_true (D190 9) with hb205 | hb205
          ·obtain ⟨FJ190, u92, he190_9, leJ190, hSJ190⟩ := (hJ190 false false false true hb191 hb199 hb203 hb205);refine W_lenv rfl Try.underlying49 rfl hue21_0.ln ?_;refine W_nil ?_;exact N_stepJ rfl (fun u hu => Option.some.inj hu) (fun b0 b3 b4 b9 h0 h3 h4 h9 => by obtain rfl : b0 = false := h0.symm.trans hb191; obtain rfl : b3 = false := h3.symm.trans hb199; obtain rfl : b4 = false := h4.symm.trans hb203; obtain rfl : b9 = true := h9.symm.trans hb205; exact ⟨FJ190, u92, he190_9, leJ190, hSJ190⟩)
          ·obtain ⟨FJ190, leJ190, hSJ190⟩ := (hJ190 false false false false hb191 hb199 hb203 hb205);refine W_lenv rfl Try.underlying49 rfl hue21_0.ln ?_;refine W_nil ?_;exact N_stepJ rfl (fun u hu => Option.some.inj hu) (fun b0 b3 b4 b9 h0 h3 h4 h9 => by obtain rfl : b0 = false := h0.symm.trans hb191; obtain rfl : b3 = false := h3.symm.trans hb199; obtain rfl : b4 = false := h4.symm.trans hb203; obtain rfl : b9 = false := h9.symm.trans hb205; exact ⟨FJ190, leJ190, hSJ190⟩)
      ·intro w206 vq206 D206 hD206 hd206 hJ206
       rcases Bool.eq_false_or_eq_true (D206 0) with hb207 | hb207
       ·
        rcases Bool.eq_false_or_eq_true (D206 3) with hb208 | hb208
        ·
         rcases Bool.eq_false_or_eq_true (D206 4) with hb209 | hb209
         ·
          rcases Bool.eq_false_or_eq_true (D206 9) with hb210 | hb210
          ·obtain ⟨FJ206, ur89_0, v91, u92, he206_0, he206_3, he206_4, he206_9, leJ206, hSJ206⟩ := (hJ206 true true true true hb207 hb208 hb209 hb210);refine W_conv rfl rfl Ty.some3 Try.underlying5 (i8_of _) ?_;refine W_nil ?_;exact N_stepJ rfl (fun u hu => Option.some.inj hu) (fun b0 b3 b4 b9 h0 h3 h4 h9 => by obtain rfl : b0 = true := h0.symm.trans hb207; obtain rfl : b3 = true := h3.symm.trans hb208; obtain rfl : b4 = true := h4.symm.trans hb209; obtain rfl : b9 = true := h9.symm.trans hb210; exact ⟨FJ206, ur89_0, v91, u92, he206_0, he206_3, he206_4, he206_9, leJ206, hSJ206⟩)
          ·obtain ⟨FJ206, ur89_0, v91, he206_0, he206_3, he206_4, leJ206, hSJ206⟩ := (hJ206 true true true false hb207 hb208 hb209 hb210);refine W_conv rfl rfl Ty.some3 Try.underlying5 (i8_of _) ?_;refine W_nil ?_;exact N_stepJ rfl (fun u hu => Option.some.inj hu) (fun b0 b3 b4 b9 h0 h3 h4 h9 => by obtain rfl : b0 = true := h0.symm.trans hb207; obtain rfl : b3 = true := h3.symm.trans hb208; obtain rfl : b4 = true := h4.symm.trans hb209; obtain rfl : b9 = false := h9.symm.trans hb210; exact ⟨FJ206, ur89_0, v91, he206_0, he206_3, he206_4, leJ206, hSJ206⟩)
         ·
          rcases Bool.eq_false_or_eq_true (D206 9) with hb211 | hb211
          ·obtain ⟨FJ206, ur89_0, u92, he206_0, he206_3, he206_9, leJ206, hSJ206⟩ := (hJ206 true true false true hb207 hb208 hb209 hb211);refine W_conv rfl rfl Ty.some3 Try.underlying5 (i8_of _) ?_;refine W_nil ?_;exact N_stepJ rfl (fun u hu => Option.some.inj hu) (fun b0 b3 b4 b9 h0 h3 h4 h9 => by obtain rfl : b0 = true := h0.symm.trans hb207; obtain rfl : b3 = true := h3.symm.trans hb208; obtain rfl : b4 = false := h4.symm.trans hb209; obtain rfl : b9 = true := h9.symm.trans hb211; exact ⟨FJ206, ur89_0, u92, he206_0, he206_3, he206_9, leJ206, hSJ206⟩)
          ·obtain ⟨FJ206, ur89_0, he206_0, he206_3, leJ206, hSJ206⟩ := (hJ206 true true false false hb207 hb208 hb209 hb211);refine W_conv rfl rfl Ty.some3 Try.underlying5 (i8_of _) ?_;refine W_nil ?_;exact N_stepJ rfl (fun u hu => Option.some.inj hu) (fun b0 b3 b4 b9 h0 h3 h4 h9 => by obtain rfl : b0 = true := h0.symm.trans hb207; obtain rfl : b3 = true := h3.symm.trans hb208; obtain rfl : b4 = false := h4.symm.trans hb209; obtain rfl : b9 = false := h9.symm.trans hb211; exact ⟨FJ206, ur89_0, he206_0, he206_3, leJ206, hSJ206⟩)
        ·
         rcases Bool.eq_false_or_eq_true (D206 4) with hb212 | hb212
         ·
          rcases Bool.eq_false_or_eq_true (D206 9) with hb213 | hb213
          ·exact False.elim (hJ206 true false true true hb207 hb208 hb212 hb213)
          ·exact False.elim (hJ206 true false true false hb207 hb208 hb212 hb213)
         ·
          rcases Bool.eq_false_or_eq_true (D206 9) with hb214 | hb214
          ·obtain ⟨FJ206, u92, he206_0, he206_9, leJ206, hSJ206⟩ := (hJ206 true false false true hb207 hb208 hb212 hb214);refine W_conv rfl rfl Ty.some3 Try.underlying5 (i8_of _) ?_;refine W_nil ?_;exact N_stepJ rfl (fun u hu => Option.some.inj hu) (fun b0 b3 b4 b9 h0 h3 h4 h9 => by obtain rfl : b0 = true := h0.symm.trans hb207; obtain rfl : b3 = false := h3.symm.trans hb208; obtain rfl : b4 = false := h4.symm.trans hb212; obtain rfl : b9 = true := h9.symm.trans hb214; exact ⟨FJ206, u92, he206_0, he206_9, leJ206, hSJ206⟩)
          ·obtain ⟨FJ206, he206_0, leJ206, hSJ206⟩ := (hJ206 true false false false hb207 hb208 hb212 hb214);refine W_conv rfl rfl Ty.some3 Try.underlying5 (i8_of _) ?_;refine W_nil ?_;exact N_stepJ rfl (fun u hu => Option.some.inj hu) (fun b0 b3 b4 b9 h0 h3 h4 h9 => by obtain rfl : b0 = true := h0.symm.trans hb207; obtain rfl : b3 = false := h3.symm.trans hb208; obtain rfl : b4 = false := h4.symm.trans hb212; obtain rfl : b9 = false := h9.symm.trans hb214; exact ⟨FJ206, he206_0, leJ206, hSJ206⟩)
       ·
        rcases Bool.eq_false_or_eq_true (D206 3) with hb215 | hb215
        ·
         rcases Bool.eq_false_or_eq_true (D206 4) with hb216 | hb216
         ·
          rcases Bool.eq_false_or_eq_true (D206 9) with hb217 | hb217
          ·exact False.elim (hJ206 false true true true hb207 hb215 hb216 hb217)
          ·exact False.elim (hJ206 false true true false hb207 hb215 hb216 hb217)
         ·
          rcases Bool.eq_false_or_eq_true (D206 9) with hb218 | hb218
          ·obtain ⟨FJ206, ur89_0, u92, he206_3, he206_9, leJ206, hSJ206⟩ := (hJ206 false true false true hb207 hb215 hb216 hb218);refine W_conv rfl rfl Ty.some3 Try.underlying5 (i8_of _) ?_;refine W_nil ?_;exact N_stepJ rfl (fun u hu => Option.some.inj hu) (fun b0 b3 b4 b9 h0 h3 h4 h9 => by obtain rfl : b0 = false := h0.symm.trans hb207; obtain rfl : b3 = true := h3.symm.trans hb215; obtain rfl : b4 = false := h4.symm.trans hb216; obtain rfl : b9 = true := h9.symm.trans hb218; exact ⟨FJ206, ur89_0, u92, he206_3, he206_9, leJ206, hSJ206⟩)
          ·obtain ⟨FJ206, ur89_0, he206_3, leJ206, hSJ206⟩ := (hJ206 false true false false hb207 hb215 hb216 hb218);refine W_conv rfl rfl Ty.some3 Try.underlying5 (i8_of _) ?_;refine W_nil ?_;exact N_stepJ rfl (fun u hu => Option.some.inj hu) (fun b0 b3 b4 b9 h0 h3 h4 h9 => by obtain rfl : b0 = false := h0.symm.trans hb207; obtain rfl : b3 = true := h3.symm.trans hb215; obtain rfl : b4 = false := h4.symm.trans hb216; obtain rfl : b9 = false := h9.symm.trans hb218; exact ⟨FJ206, ur89_0, he206_3, leJ206, hSJ206⟩)
        ·
         rcases Bool.eq_false_or_eq_true (D206 4) with hb219 | hb219
         ·
          rcases Bool.eq_false_or_eq_true (D206 9) with hb220 | hb220
          ·exact False.elim (hJ206 false false true true hb207 hb215 hb219 hb220)
          ·exact False.elim (hJ206 false false true false hb207 hb215 hb219 hb220)
         ·
          rcases Bool.eq_false_or_eq_true (D206 9) with hb221 | hb221
          ·obtain ⟨FJ206, u92, he206_9, leJ206, hSJ206⟩ := (hJ206 false false false true hb207 hb215 hb219 hb221);refine W_conv rfl rfl Ty.some3 Try.underlying5 (i8_of _) ?_;refine W_nil ?_;exact N_stepJ rfl (fun u hu => Option.some.inj hu) (fun b0 b3 b4 b9 h0 h3 h4 h9 => by obtain rfl : b0 = false := h0.symm.trans hb207; obtain rfl : b3 = false := h3.symm.trans hb215; obtain rfl : b4 = false := h4.symm.trans hb219; obtain rfl : b9 = true := h9.symm.trans hb221; exact ⟨FJ206, u92, he206_9, leJ206, hSJ206⟩)
          ·obtain ⟨FJ206, leJ206, hSJ206⟩ := (hJ206 false false false false hb207 hb215 hb219 hb221);refine W_conv rfl rfl Ty.some3 Try.underlying5 (i8_of _) ?_;refine W_nil ?_;exact N_stepJ rfl (fun u hu => Option.some.inj hu) (fun b0 b3 b4 b9 h0 h3 h4 h9 => by obtain rfl : b0 = false := h0.symm.trans hb207; obtain rfl : b3 = false := h3.symm.trans hb215; obtain rfl : b4 = false := h4.symm.trans hb219; obtain rfl : b9 = false := h9.symm.trans hb221; exact ⟨FJ206, leJ206, hSJ206⟩)
      ·intro w222 vq222 D222 hD222 hd222 hJ222
       rcases Bool.eq_false_or_eq_true (D222 0) with hb223 | hb223
       ·
        rcases Bool.eq_false_or_eq_true (D222 3) with hb224 | hb224
        ·
         rcases Bool.eq_false_or_eq_true (D222 4) with hb225 | hb225
         ·obtain ⟨FJ222, ur89_0, v91, he222_0, he222_3, he222_4, leJ222, hSJ222⟩ := (hJ222 true true true false hb223 hb224 hb225 hD222);refine W_bs (t := tB) [[.int .u8 ((toB8 (x20.ids.length : Int)).toNat : Int)]] [(toB8 (x20.ids.length : Int))] rfl Try.underlying25 Ty.cells5 rfl rfl Ty.zero5 rfl rfl ⟨rfl, trivial⟩ rfl rfl hSJ222 ?_;intro u92 w92 hS92;refine W_nil ?_;exact N_stepJ rfl (fun u (hu : (none : Option Value) = some u) => by cases hu) (fun b0 b3 b4 b9 h0 h3 h4 h9 => by obtain rfl : b0 = true := h0.symm.trans hb223; obtain rfl : b3 = true := h3.symm.trans hb224; obtain rfl : b4 = true := h4.symm.trans hb225; obtain rfl : b9 = true := h9.symm; exact ⟨FJ222, ur89_0, v91, u92, he222_0, he222_3, he222_4, rfl, leJ222, hS92⟩)
         ·obtain ⟨FJ222, ur89_0, he222_0, he222_3, leJ222, hSJ222⟩ := (hJ222 true true false false hb223 hb224 hb225 hD222);refine W_bs (t := tB) [[.int .u8 ((toB8 (x20.ids.length : Int)).toNat : Int)]] [(toB8 (x20.ids.length : Int))] rfl Try.underlying25 Ty.cells5 rfl rfl Ty.zero5 rfl rfl ⟨rfl, trivial⟩ rfl rfl hSJ222 ?_;intro u92 w92 hS92;refine W_nil ?_;exact N_stepJ rfl (fun u (hu : (none : Option Value) = some u) => by cases hu) (fun b0 b3 b4 b9 h0 h3 h4 h9 => by obtain rfl : b0 = true := h0.symm.trans hb223; obtain rfl : b3 = true := h3.symm.trans hb224; obtain rfl : b4 = false := h4.symm.trans hb225; obtain rfl : b9 = true := h9.symm; exact ⟨FJ222, ur89_0, u92, he222_0, he222_3, rfl, leJ222, hS92⟩)
        ·
         rcases Bool.eq_false_or_eq_true (D222 4) with hb226 | hb226
         ·exact False.elim (hJ222 true false true false hb223 hb224 hb226 hD222)
         ·obtain ⟨FJ222, he222_0, leJ222, hSJ222⟩ := (hJ222 true false false false hb223 hb224 hb226 hD222);refine W_bs (t := tB) [[.int .u8 ((toB8 (x20.ids.length : Int)).toNat : Int)]] [(toB8 (x20.ids.length : Int))] rfl Try.underlying25 Ty.cells5 rfl rfl Ty.zero5 rfl rfl ⟨rfl, trivial⟩ rfl rfl hSJ222 ?_;intro u92 w92 hS92;refine W_nil ?_;exact N_stepJ rfl (fun u (hu : (none : Option Value) = some u) => by cases hu) (fun b0 b3 b4 b9 h0 h3 h4 h9 => by obtain rfl : b0 = true := h0.symm.trans hb223; obtain rfl : b3 = false := h3.symm.trans hb224; obtain rfl : b4 = false := h4.symm.trans hb226; obtain rfl : b9 = true := h9.symm; exact ⟨FJ222, u92, he222_0, rfl, leJ222, hS92⟩)
       ·
        rcases Bool.eq_false_or_eq_true (D222 3) with hb227 | hb227
        ·
         rcases Bool.eq_false_or_eq_true (D222 4) with hb228 | hb228
         ·exact False.elim (hJ222 false true true false hb223 hb227 hb228 hD222)
         ·obtain ⟨FJ222, ur89_0, he222_3, leJ222, hSJ222⟩ := (hJ222 false true false false hb223 hb227 hb228 hD222);refine W_bs (t := tB) [[.int .u8 ((toB8 (x20.ids.length : Int)).toNat : Int)]] [(toB8 (x20.ids.length : Int))] rfl Try.underlying25 Ty.cells5 rfl rfl Ty.zero5 rfl rfl ⟨rfl, trivial⟩ rfl rfl hSJ222 ?_;intro u92 w92 hS92;refine W_nil ?_;exact N_stepJ rfl (fun u (hu : (none : Option Value) = some u) => by cases hu) (fun b0 b3 b4 b9 h0 h3 h4 h9 => by obtain rfl : b0 = false := h0.symm.trans hb223; obtain rfl : b3 = true := h3.symm.trans hb227; obtain rfl : b4 = false := h4.symm.trans hb228; obtain rfl : b9 = true := h9.symm; exact ⟨FJ222, ur89_0, u92, he222_3, rfl, leJ222, hS92⟩)
        ·
         rcases Bool.eq_false_or_eq_true (D222 4) with hb229 | hb229
         ·exact False.elim (hJ222 false false true false hb223 hb227 hb229 hD222)
         ·obtain ⟨FJ222, leJ222, hSJ222⟩ := (hJ222 false false false false hb223 hb227 hb229 hD222);refine W_bs (t := tB) [[.int .u8 ((toB8 (x20.ids.length : Int)).toNat : Int)]] [(toB8 (x20.ids.length : Int))] rfl Try.underlying25 Ty.cells5 rfl rfl Ty.zero5 rfl rfl ⟨rfl, trivial⟩ rfl rfl hSJ222 ?_;intro u92 w92 hS92;refine W_nil ?_;exact N_stepJ rfl (fun u (hu : (none : Option Value) = some u) => by cases hu) (fun b0 b3 b4 b9 h0 h3 h4 h9 => by obtain rfl : b0 = false := h0.symm.trans hb223; obtain rfl : b3 = false := h3.symm.trans hb227; obtain rfl : b4 = false := h4.symm.trans hb229; obtain rfl : b9 = true := h9.symm; exact ⟨FJ222, u92, rfl, leJ222, hS92⟩)
     intro w230 vq230 D230 hA230 hJ230;obtain ⟨FJ230, ur89_0, v91, u92, he230_0, he230_3, he230_4, he230_9, leJ230, hSJ230⟩ := (hJ230 true true true true (hA230 0 (by decide)) (hA230 3 (by decide)) (hA230 4 (by decide)) (hA230 9 (by decide)));refine W_eqv (t := 44) rfl he230_0 ?_;refine W_eqv (t := 47) rfl he230_3 ?_;refine W_eqv (t := 48) rfl he230_4 ?_;refine W_eqv (t := 53) rfl he230_9 ?_;refine W_appM 4 rfl Try.underlying25 Ty.row5 rfl rfl rfl rfl rfl hSJ230 rfl (hSJ230.rowSrc (j := 0) rfl) hl93 ?_;intro v94 w94 hS94;refine W_assign rfl rfl ?_;refine W_nil ?_;refine N_code ?_;refine C_seq ?_;refine C_region ?_;refine W_assign rfl rfl ?_;refine W_nil ?_;refine N_code ?_;refine C_block ?_;refine C_loopM (fun (s : Int × (List UInt8)) E wq => ∃ (F231 : Frz) (u234 : Value), E = [(1, pl g1 0), (3, u234), (4, .int .i64 i12), (5, pl g22 0), (6, .int .i64 s.1)] ∧ FJ230.le F231 ∧ St [] w F F231 [.box g22 51 [strV x20.path, .int .i64 x20.size, ue21_0], .row tB 5 u234 s.2, .box g1 45 [strV x0.name, v0_0]] wq) H ?_ ?_
     ·exact ⟨_, ⟨FJ230, v94, rfl, (Frz.le.refl _), hS94.pick [3, 4, 5] (by decide)⟩, ⟨rfl, rfl, rfl, rfl, rfl, trivial⟩⟩
     ·rintro rec235 ⟨i232, l233⟩ E w231 hI H;(try dsimp only at hI);obtain ⟨F231, u234, rfl, le231, hS231⟩ := hI;dsimp only [cellarerref14_ManifestBytes.l4] at H;refine C_seq ?_;refine C_seq ?_;refine C_region ?_;refine W_move rfl rfl ?_;refine W_field_pl 2 rfl Ty.field51_2 rfl ?_;refine W_bld1 0 rfl Ty.cell49 rfl hS231 rfl rfl ?_;refine W_lenv rfl Try.underlying49 rfl hue21_0.ln ?_;refine W_lss rfl rfl rfl ?_;refine W_nil ?_;refine N_code ?_;refine C_cond rfl (fun hc236 => ?_) (fun hc236 => ?_)
      ·rw [if_t hc236] at H;refine C_skip ?_;refine N_code ?_;refine C_seq ?_;refine C_block ?_;obtain ⟨x237, hx237, H⟩ := bd_some H;obtain ⟨l240, hl240, H⟩ := bd_some H;refine C_region ?_;refine W_move rfl rfl ?_;refine W_field_pl 2 rfl Ty.field51_2 rfl ?_;refine W_bld1 0 rfl Ty.cell49 rfl hS231 rfl rfl ?_;refine W_move rfl rfl ?_;obtain ⟨hp242, hy242⟩ := ix_some hx237;obtain ⟨cs242, hr242, he242⟩ := (hue21_0.mono ((leJ88.trans leJ230).trans le231)).at_ hy242;obtain ⟨rfl, hle238⟩ := hr242;replace he242 : Elf _ _ 32 _ _ := he242;refine W_ix rfl Try.underlying49 Ty.cells57 Ty.info57 rfl rfl (he242.el hS231.agree) hp242 rfl ?_;refine W_slE rfl Try.underlying57 Ty.info5 rfl he242 rfl hle238 ?_;intro q239 hv239;refine W_appM 1 rfl Try.underlying25 Ty.row5 rfl rfl rfl rfl rfl hS231 rfl (hv239.src hS231.agree) hl240 ?_;intro v241 w241 hS241;refine W_assign rfl rfl ?_;refine W_nil ?_;refine N_block ?_;refine N_code ?_;refine C_region ?_;refine W_move rfl rfl ?_;refine W_add rfl rfl rfl rfl ?_;refine W_assign rfl rfl ?_;refine W_nil ?_;exact N_againM (wr (i232 + 1), l240) _ H ⟨F231, v241, rfl, le231, hS241⟩ ⟨rfl, rfl, rfl, rfl, rfl, trivial⟩
      ·rw [if_f hc236] at H;refine C_exit _ rfl ?_;refine N_block ?_;exact N_join _ ⟨l233, H, ⟨F231, u234, rfl, ((leJ88.trans leJ230).trans le231), hS231.pick [1, 2] (by decide)⟩⟩ ⟨rfl, rfl, rfl, trivial⟩
    ·rintro E w17 ⟨l18, H, F17, u19, rfl, le17, hS17⟩;dsimp only [cellarerref14_ManifestBytes.k3] at H;refine C_region ?_;refine W_move rfl rfl ?_;refine W_add rfl rfl rfl rfl ?_;refine W_assign rfl rfl ?_;refine W_nil ?_;exact N_againM (wr (i12 + 1), l18) _ H ⟨F17, u19, rfl, (le11.trans le17), hS17⟩ ⟨rfl, rfl, rfl, trivial⟩
   ·rw [if_f hc16] at H;refine C_exit _ rfl ?_;exact N_join _ ⟨l13, H, ⟨F11, u14, rfl, le11, hS11.pick [0] (by decide)⟩⟩ ⟨rfl, trivial⟩
 ·rintro E w8 ⟨l9, H, F8, u10, rfl, le8, hS8⟩;dsimp only [cellarerref14_ManifestBytes.k1] at H;refine C_seq ?_;refine C_region ?_;refine W_move rfl rfl ?_;refine W_assign rfl rfl ?_;refine W_nil ?_;refine N_code ?_;obtain rfl := Option.some.inj H;refine C_ret rfl rfl ?_;exact ⟨F8, u10, rfl, hS8⟩

end
end Go.Wk.Lf
