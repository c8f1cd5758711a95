import Derived.Test.YtoanecpanckkeaaLfM1
import Derived.Test.YtoanecpanckkeaaLfM2
import Derived.Test.YtoanecpanckkeaaLfM3
import Derived.Test.YtoanecpanckkeaaLfM4
namespace Go.Wk.Lf
open Go.Proofs Go.RowKit
set_option linter.unusedVariables false
set_option linter.unusedSimpArgs false
noncomputable section

def cellarerref01_Next.k1 (x0 : List UInt8) : Option Int :=
  some (x0.length : Int)


def cellarerref01_Next.l2 (x0 : List UInt8) (rec5 : (UInt32 × Int) → Option Int) : (UInt32 × Int) → Option Int
  | (i3, i4) =>
    if decide (i4 < (x0.length : Int)) then
      bd (ix x0 i4) fun x7 =>
      if ((decide (8 ≤ wr (i4 + 1)) && decide (((((i3 * (2 : UInt32)) + ((x7.toUInt32 + (1 : UInt32)) * (2654435761 : UInt32))) >>> UInt32.ofNat 28).toNat : Int) = 0)) || decide (wr (i4 + 1) = 64)) then
        some (wr (i4 + 1))
      else
        rec5 (((i3 * (2 : UInt32)) + ((x7.toUInt32 + (1 : UInt32)) * (2654435761 : UInt32))), wr (i4 + 1))
    else
      cellarerref01_Next.k1 x0

def cellarerref01_Next (x0 : List UInt8) : Option Int :=
  loop (cellarerref01_Next.l2 x0) ((0 : UInt32), 0)

theorem cellarerref01_Next_ok {F : Frz} {w : World} {x0 : List UInt8} {r : Int} {v0 : Value} (hA : Agree F w.heap) (h0 : SlF tB F v0 x0) (H : cellarerref01_Next x0 = some r) : Ret Try.prog 100 #[v0] w fun v w' => ∃ (F' : Frz), v = .int .i64 r ∧ St [] w F F' [] w' := by
 refine Ret_of (args := [v0]) Try.func100 rfl rfl ?_;change C _ _ _ _ [(0, v0)] _;have hS := St.entry hA;dsimp only [cellarerref01_Next] at H;refine C_seq ?_;refine C_region ?_;refine W_assign rfl rfl ?_;refine W_nil ?_;refine N_code ?_;refine C_seq ?_;refine C_region ?_;refine W_assign rfl rfl ?_;refine W_nil ?_;refine N_code ?_;refine C_seq_join (fun E wq => cellarerref01_Next.k1 x0 = some r ∧ ∃ (F1 : Frz), E = [(0, v0)] ∧ F.le F1 ∧ St [] w F F1 [] wq) ?_ ?_
 ·refine C_seq ?_;refine C_region ?_;refine W_assign rfl rfl ?_;refine W_nil ?_;refine N_code ?_;refine C_block ?_;refine C_loopM (fun (s : UInt32 × Int) E wq => ∃ (F2 : Frz), E = [(0, v0), (3, .int .u32 (s.1.toNat : Int)), (4, .int .i64 s.2)] ∧ F.le F2 ∧ St [] w F F2 [] wq) H ?_ ?_
  ·exact ⟨_, ⟨F, rfl, (Frz.le.refl _), hS⟩, ⟨rfl, rfl, rfl, trivial⟩⟩
  ·rintro rec5 ⟨i3, i4⟩ E w2 hI H;(try dsimp only at hI);obtain ⟨F2, rfl, le2, hS2⟩ := hI;dsimp only [cellarerref01_Next.l2] at H;refine C_seq ?_;refine C_seq ?_;refine C_region ?_;refine W_move rfl rfl ?_;refine W_move rfl rfl ?_;refine W_lenv rfl Try.underlying25 rfl h0.ln ?_;refine W_lss rfl rfl rfl ?_;refine W_nil ?_;refine N_code ?_;refine C_cond rfl (fun hc6 => ?_) (fun hc6 => ?_)
   ·rw [if_t hc6] at H;refine C_skip ?_;refine N_code ?_;refine C_seq ?_;refine C_block ?_;refine C_seq ?_;obtain ⟨x7, hx7, H⟩ := bd_some H;refine C_region ?_;refine W_move rfl rfl ?_;refine W_mul rfl rfl rfl (u32_mulc i3 (2 : UInt32) (by decide)) ?_;refine W_move rfl rfl ?_;refine W_move rfl rfl ?_;obtain ⟨hp9, hy9⟩ := ix_some hx7;obtain ⟨cs9, hr9, he9⟩ := (h0.mono le2).at_ hy9;obtain rfl := hr9;replace he9 : Elf _ _ 1 _ _ := he9;refine W_ix rfl Try.underlying25 Ty.cells5 Ty.info5 rfl rfl (he9.el hS2.agree) hp9 rfl ?_;refine W_ld1 0 rfl Ty.cell5 rfl (he9.el hS2.agree) (by omega) rfl ?_;refine W_conv rfl rfl Ty.some5 Try.underlying94 (u8_u32 _) ?_;refine W_add rfl rfl rfl (u32_addc x7.toUInt32 (1 : UInt32) (by decide)) ?_;refine W_mul rfl rfl rfl (u32_mulc (x7.toUInt32 + (1 : UInt32)) (2654435761 : UInt32) (by decide)) ?_;refine W_add rfl rfl rfl (u32_add (i3 * (2 : UInt32)) ((x7.toUInt32 + (1 : UInt32)) * (2654435761 : UInt32))) ?_;refine W_assign rfl rfl ?_;refine W_nil ?_;refine N_code ?_;refine C_seq ?_;refine C_join (fun E wq => E = [(0, v0), (3, .int .u32 (((i3 * (2 : UInt32)) + ((x7.toUInt32 + (1 : UInt32)) * (2654435761 : UInt32))).toNat : Int)), (4, .int .i64 i4), (33, .bool ((decide (8 ≤ wr (i4 + 1)) && decide (((((i3 * (2 : UInt32)) + ((x7.toUInt32 + (1 : UInt32)) * (2654435761 : UInt32))) >>> UInt32.ofNat 28).toNat : Int) = 0)) || decide (wr (i4 + 1) = 64)))] ∧ ∃ F10 : Frz, F2.le F10 ∧ St [] w F F10 [] wq) ?_ ?_
    ·
     rcases Bool.eq_false_or_eq_true (decide (8 ≤ wr (i4 + 1))) with hb11 | hb11
     ·
      rcases Bool.eq_false_or_eq_true (decide (((((i3 * (2 : UInt32)) + ((x7.toUInt32 + (1 : UInt32)) * (2654435761 : UInt32))) >>> UInt32.ofNat 28).toNat : Int) = 0)) with hb12 | hb12
      ·refine C_region ?_;refine W_move rfl rfl ?_;refine W_add rfl rfl rfl rfl ?_;refine W_geq rfl rfl rfl ?_;refine W_move rfl rfl ?_;refine W_known (t := 24) true rfl hb11 ?_;refine W_guard_yes rfl ?_;refine W_move rfl rfl ?_;refine W_guard_yes rfl ?_;refine W_shr rfl rfl rfl (by decide) (by decide) (u32_shr _ _ 28 rfl (by decide)) ?_;refine W_guard_yes rfl ?_;refine W_eql rfl rfl rfl ?_;refine W_pick_t rfl rfl rfl ?_;refine W_move rfl rfl ?_;refine W_known (t := 29) true rfl hb12 ?_;refine W_guard_no rfl rfl rfl rfl rfl ?_;refine W_guard_no rfl rfl rfl rfl rfl ?_;refine W_guard_no rfl rfl rfl rfl rfl ?_;refine W_pick_t rfl rfl rfl ?_;refine W_nil ?_;exact N_join _ ⟨rfl, F2, (Frz.le.refl _), hS2⟩ ⟨rfl, rfl, rfl, (look_bool rfl (by simp only [hb11, hb12, Bool.false_or, Bool.true_or, Bool.or_false, Bool.or_true, Bool.true_and, Bool.false_and, Bool.and_true, Bool.and_false, Bool.not_true, Bool.not_false])), trivial⟩
      ·refine C_region ?_;refine W_move rfl rfl ?_;refine W_add rfl rfl rfl rfl ?_;refine W_geq rfl rfl rfl ?_;refine W_move rfl rfl ?_;refine W_known (t := 24) true rfl hb11 ?_;refine W_guard_yes rfl ?_;refine W_move rfl rfl ?_;refine W_guard_yes rfl ?_;refine W_shr rfl rfl rfl (by decide) (by decide) (u32_shr _ _ 28 rfl (by decide)) ?_;refine W_guard_yes rfl ?_;refine W_eql rfl rfl rfl ?_;refine W_pick_t rfl rfl rfl ?_;refine W_move rfl rfl ?_;refine W_known (t := 29) false rfl hb12 ?_;refine W_guard_yes rfl ?_;refine W_move rfl rfl ?_;refine W_guard_yes rfl ?_;refine W_add rfl rfl rfl rfl ?_;refine W_guard_yes rfl ?_;refine W_eql rfl rfl rfl ?_;refine W_pick_f rfl rfl rfl ?_;refine W_nil ?_;exact N_join _ ⟨rfl, F2, (Frz.le.refl _), hS2⟩ ⟨rfl, rfl, rfl, (look_bool rfl (by simp only [hb11, hb12, Bool.false_or, Bool.true_or, Bool.or_false, Bool.or_true, Bool.true_and, Bool.false_and, Bool.and_true, Bool.and_false, Bool.not_true, Bool.not_false])), trivial⟩
     ·refine C_region ?_;refine W_move rfl rfl ?_;refine W_add rfl rfl rfl rfl ?_;refine W_geq rfl rfl rfl ?_;refine W_move rfl rfl ?_;refine W_known (t := 24) false rfl hb11 ?_;refine W_guard_no rfl rfl rfl rfl rfl ?_;refine W_guard_no rfl rfl rfl rfl rfl ?_;refine W_guard_no rfl rfl rfl rfl rfl ?_;refine W_pick_f rfl rfl rfl ?_;refine W_move rfl rfl ?_;refine W_guard_yes rfl ?_;refine W_move rfl rfl ?_;refine W_guard_yes rfl ?_;refine W_add rfl rfl rfl rfl ?_;refine W_guard_yes rfl ?_;refine W_eql rfl rfl rfl ?_;refine W_pick_f rfl rfl rfl ?_;refine W_nil ?_;exact N_join _ ⟨rfl, F2, (Frz.le.refl _), hS2⟩ ⟨rfl, rfl, rfl, (look_bool rfl (by simp only [hb11, Bool.false_or, Bool.true_or, Bool.or_false, Bool.or_true, Bool.true_and, Bool.false_and, Bool.and_true, Bool.and_false, Bool.not_true, Bool.not_false])), trivial⟩
    rintro E w10 ⟨rfl, F10, le10, hS10⟩;refine N_code ?_;refine C_cond rfl (fun hc13 => ?_) (fun hc13 => ?_)
    ·rw [if_t hc13] at H;refine C_seq ?_;refine C_region ?_;refine W_move rfl rfl ?_;refine W_add rfl rfl rfl rfl ?_;refine W_assign rfl rfl ?_;refine W_nil ?_;refine N_code ?_;obtain rfl := Option.some.inj H;refine C_ret rfl rfl ?_;exact ⟨F10, rfl, hS10⟩
    ·rw [if_f hc13] at H;refine C_skip ?_;refine N_block ?_;refine N_code ?_;refine C_region ?_;refine W_move rfl rfl ?_;refine W_add rfl rfl rfl rfl ?_;refine W_assign rfl rfl ?_;refine W_nil ?_;exact N_againM (((i3 * (2 : UInt32)) + ((x7.toUInt32 + (1 : UInt32)) * (2654435761 : UInt32))), wr (i4 + 1)) _ H ⟨F10, rfl, (le2.trans le10), hS10⟩ ⟨rfl, rfl, rfl, trivial⟩
   ·rw [if_f hc6] at H;refine C_exit _ rfl ?_;exact N_join _ ⟨H, ⟨F2, rfl, le2, hS2⟩⟩ ⟨rfl, trivial⟩
 ·rintro E w1 ⟨H, F1, rfl, le1, hS1⟩;dsimp only [cellarerref01_Next.k1] at H;refine C_seq ?_;refine C_region ?_;refine W_move rfl rfl ?_;refine W_lenv rfl Try.underlying25 rfl h0.ln ?_;refine W_assign rfl rfl ?_;refine W_nil ?_;refine N_code ?_;obtain rfl := Option.some.inj H;refine C_ret rfl rfl ?_;exact ⟨F1, rfl, hS1⟩

def cellarerref01_Cut.k1 (l2 : List (List UInt8)) : Option (List (List UInt8)) :=
  some l2


def cellarerref01_Cut.l2 (rec12 : ((List UInt8) × (List (List UInt8))) → Option (List (List UInt8))) : ((List UInt8) × (List (List UInt8))) → Option (List (List UInt8))
  | (l6, l9) =>
    if decide (0 < (l6.length : Int)) then
      bd (cellarerref01_Next l6) fun r14 =>
      bd (cut (α := UInt8) l6 0 r14) fun l16 =>
      bd (cellarerkeep_Twin l16) fun r18 =>
      bd (app (α := (List UInt8)) l9 [r18]) fun l20 =>
      bd (cut (α := UInt8) l6 r14 (l6.length : Int)) fun l24 =>
      rec12 (l24, l20)
    else
      cellarerref01_Cut.k1 l9

def cellarerref01_Cut (x0 : List UInt8) : Option (List (List UInt8)) :=
  loop (cellarerref01_Cut.l2) (x0, [])

theorem cellarerref01_Cut_ok {F : Frz} {w : World} {x0 : List UInt8} {r : (List (List UInt8))} {v0 : Value} (hA : Agree F w.heap) (h0 : SlF tB F v0 x0) (H : cellarerref01_Cut x0 = some r) : Ret Try.prog 83 #[v0] w fun v w' => ∃ (F' : Frz) (q0 : Value), v = q0 ∧ St [] w F F' [.row (tSl tB) 25 q0 (r)] w' := by
 refine Ret_of (args := [v0]) Try.func83 rfl rfl ?_;change C _ _ _ _ [(0, v0)] _;have hS := St.entry hA;dsimp only [cellarerref01_Cut] at H;refine C_seq ?_;refine C_region ?_;refine W_assign rfl rfl ?_;refine W_nil ?_;refine N_code ?_;refine C_seq ?_;refine C_region ?_;refine W_assign rfl rfl ?_;refine W_nil ?_;refine N_code ?_;refine C_seq_join (fun E wq => ∃ l2 : List (List UInt8), cellarerref01_Cut.k1 l2 = some r ∧ ∃ (F1 : Frz) (u3 : Value), E = [(3, u3)] ∧ F.le F1 ∧ St [] w F F1 [.row (tSl tB) 25 u3 l2] wq) ?_ ?_
 ·refine C_block ?_;refine C_loopM (fun (s : (List UInt8) × (List (List UInt8))) E wq => ∃ (F5 : Frz) (u7 : Value) (u10 : Value), E = [(0, u7), (3, u10)] ∧ F.le F5 ∧ SlF tB F5 u7 s.1 ∧ St [] w F F5 [.row (tSl tB) 25 u10 s.2] wq) H ?_ ?_
  ·have hS27 := hS.nilRow (tSl tB) 25;exact ⟨_, ⟨F, v0, (.slice none 0 0), rfl, (Frz.le.refl _), h0, hS27⟩, ⟨rfl, rfl, trivial⟩⟩
  ·rintro rec12 ⟨l6, l9⟩ E w5 hI H;(try dsimp only at hI);obtain ⟨F5, u7, u10, rfl, le5, hx8, hS5⟩ := hI;dsimp only [cellarerref01_Cut.l2] at H;refine C_seq ?_;refine C_seq ?_;refine C_region ?_;refine W_move rfl rfl ?_;refine W_lenv rfl Try.underlying25 rfl hx8.ln ?_;refine W_gtr rfl rfl rfl ?_;refine W_nil ?_;refine N_code ?_;refine C_cond rfl (fun hc13 => ?_) (fun hc13 => ?_)
   ·rw [if_t hc13] at H;refine C_skip ?_;refine N_code ?_;refine C_block ?_;refine C_seq ?_;obtain ⟨r14, hr14, H⟩ := bd_some H;refine C_region ?_;refine W_move rfl rfl ?_;refine W_call rfl Ty.named100 rfl (cellarerref01_Next_ok hS5.agree hx8 hr14) ?_;rintro v15 w15 ⟨Fr14, rfl, hT15⟩;have hS15 := hS5.lent hT15;refine W_assign rfl rfl ?_;refine W_nil ?_;refine N_code ?_;refine C_seq ?_;obtain ⟨l16, hl16, H⟩ := bd_some H;obtain ⟨r18, hr18, H⟩ := bd_some H;obtain ⟨l20, hl20, H⟩ := bd_some H;refine C_region ?_;refine W_move rfl rfl ?_;refine W_move rfl rfl ?_;refine W_move rfl rfl ?_;refine W_cutM 0 r14 rfl Try.underlying25 Ty.cells5 Ty.info5 rfl rfl ⟨_, rfl⟩ hx8 hl16 ?_;intro q17 hv17;refine W_call rfl Ty.named36 rfl (cellarerkeep_Twin_ok hS15.agree hv17 hr18) ?_;rintro ur18_0 w22 ⟨Fr18, _, rfl, hT22⟩;have hS22 := hS15.call hT22;have ler18 := hT22.ext;obtain ⟨F23, le23, hf23, hS23⟩ := hS22.freeze 0 [1] rfl (by decide) (by decide);refine W_bs (t := (tSl tB)) [[ur18_0]] [r18] rfl Try.underlying52 Ty.cells25 rfl rfl Ty.zero25 rfl (by simp [(hf23.ln).cells]) ⟨⟨_, rfl, hf23⟩, trivial⟩ rfl rfl hS23 ?_;intro u19 w19 hS19;refine W_appM 1 rfl Try.underlying52 Ty.row25 rfl rfl rfl rfl rfl hS19 rfl (hS19.rowSrc (j := 0) rfl) hl20 ?_;intro v21 w21 hS21;refine W_assign rfl rfl ?_;refine W_nil ?_;refine N_code ?_;obtain ⟨l24, hl24, H⟩ := bd_some H;refine C_region ?_;refine W_move rfl rfl ?_;refine W_move rfl rfl ?_;refine W_cutM r14 (l6.length : Int) rfl Try.underlying25 Ty.cells5 Ty.info5 rfl ⟨_, rfl⟩ rfl (hx8.mono (ler18.trans le23)) hl24 ?_;intro q25 hv25;refine W_assign rfl rfl ?_;refine W_nil ?_;refine N_block ?_;exact N_againM (l24, l20) _ H ⟨F23, q25, v21, rfl, ((le5.trans ler18).trans le23), hv25, hS21.pick [1] (by decide)⟩ ⟨rfl, rfl, trivial⟩
   ·rw [if_f hc13] at H;refine C_exit _ rfl ?_;exact N_join _ ⟨l9, H, ⟨F5, u10, rfl, le5, hS5⟩⟩ ⟨rfl, trivial⟩
 ·rintro E w1 ⟨l2, H, F1, u3, rfl, le1, hS1⟩;dsimp only [cellarerref01_Cut.k1] at H;refine C_seq ?_;refine C_region ?_;refine W_move rfl rfl ?_;refine W_assign rfl rfl ?_;refine W_nil ?_;refine N_code ?_;obtain rfl := Option.some.inj H;refine C_ret rfl rfl ?_;exact ⟨F1, u3, rfl, hS1⟩

def cellarerlaw17_apart.k2 : Option Bool :=
  some false


def cellarerlaw17_apart.k4 (i7 : Int) (rec8 : Int → Option Bool) : Option Bool :=
  rec8 (wr (i7 + 1))


def cellarerlaw17_apart.l5 (l2 : List (List UInt8)) (i7 : Int) (rec8 : Int → Option Bool) (rec13 : Int → Option Bool) : Int → Option Bool
  | i12 =>
    if decide (i12 < i7) then
      bd (ix l2 i7) fun x15 =>
      bd (shaId x15) fun r17 =>
      bd (ix l2 i12) fun x18 =>
      bd (shaId x18) fun r20 =>
      bd (only (decide (r17 = r20)) (ix l2 i7) []) fun x21 =>
      bd (only (decide (r17 = r20)) (ix l2 i12) []) fun x23 =>
      bd (only (decide (r17 = r20)) (cellarerkeep_Bytes x21 x23) false) fun r25 =>
      if (decide (r17 = r20) && (!r25)) then
        some true
      else
        rec13 (wr (i12 + 1))
    else
      cellarerlaw17_apart.k4 i7 rec8


def cellarerlaw17_apart.l3 (l2 : List (List UInt8)) (rec8 : Int → Option Bool) : Int → Option Bool
  | i7 =>
    if decide (i7 < (l2.length : Int)) then
      loop (cellarerlaw17_apart.l5 l2 i7 rec8) 0
    else
      cellarerlaw17_apart.k2


def cellarerlaw17_apart.k1 (l2 : List (List UInt8)) : Option Bool :=
  loop (cellarerlaw17_apart.l3 l2) 0


def cellarerlaw17_apart.l6 (x0 : List File) (rec98 : ((List (List UInt8)) × Int) → Option Bool) : ((List (List UInt8)) × Int) → Option Bool
  | (l94, i97) =>
    if decide (i97 < (x0.length : Int)) then
      bd (ix x0 i97) fun x100 =>
      bd (cellarerref01_Cut x100.data) fun r102 =>
      bd (app (α := (List UInt8)) l94 r102) fun l103 =>
      rec98 (l103, wr (i97 + 1))
    else
      cellarerlaw17_apart.k1 l94

def cellarerlaw17_apart (x0 : List File) : Option Bool :=
  loop (cellarerlaw17_apart.l6 x0) ([], 0)

theorem cellarerlaw17_apart_ok {F : Frz} {w : World} {x0 : List File} {r : Bool} {v0 : Value} (hA : Agree F w.heap) (h0 : SlF File.t F v0 x0) (H : cellarerlaw17_apart x0 = some r) : Ret Try.prog 46 #[v0] w fun v w' => ∃ (F' : Frz), v = .bool r ∧ St [] w F F' [] w' := by
 refine Ret_of (args := [v0]) Try.func46 rfl rfl ?_;change C _ _ _ _ [(0, v0)] _;have hS := St.entry hA;dsimp only [cellarerlaw17_apart] at H;refine C_seq ?_;refine C_region ?_;refine W_assign rfl rfl ?_;refine W_nil ?_;refine N_code ?_;refine C_seq ?_;refine C_region ?_;refine W_assign rfl rfl ?_;refine W_nil ?_;refine N_code ?_;refine C_seq_join (fun E wq => ∃ l2 : List (List UInt8), cellarerlaw17_apart.k1 l2 = some r ∧ ∃ (F1 : Frz) (u3 : Value), E = [(3, u3)] ∧ F.le F1 ∧ St [] w F F1 [.row (tSl tB) 25 u3 l2] wq) ?_ ?_
 ·refine C_seq ?_;refine C_region ?_;refine W_assign rfl rfl ?_;refine W_nil ?_;refine N_code ?_;refine C_block ?_;refine C_loopM (fun (s : (List (List UInt8)) × Int) E wq => ∃ (F93 : Frz) (u95 : Value), E = [(0, v0), (3, u95), (4, .int .i64 s.2)] ∧ F.le F93 ∧ St [] w F F93 [.row (tSl tB) 25 u95 s.1] wq) H ?_ ?_
  ·have hS108 := hS.nilRow (tSl tB) 25;exact ⟨_, ⟨F, (.slice none 0 0), rfl, (Frz.le.refl _), hS108⟩, ⟨rfl, rfl, rfl, trivial⟩⟩
  ·rintro rec98 ⟨l94, i97⟩ E w93 hI H;(try dsimp only at hI);obtain ⟨F93, u95, rfl, le93, hS93⟩ := hI;dsimp only [cellarerlaw17_apart.l6] at H;refine C_seq ?_;refine C_seq ?_;refine C_region ?_;refine W_move rfl rfl ?_;refine W_move rfl rfl ?_;refine W_lenv rfl Try.underlying27 rfl h0.ln ?_;refine W_lss rfl rfl rfl ?_;refine W_nil ?_;refine N_code ?_;refine C_cond rfl (fun hc99 => ?_) (fun hc99 => ?_)
   ·rw [if_t hc99] at H;refine C_skip ?_;refine N_code ?_;refine C_seq ?_;refine C_block ?_;obtain ⟨x100, hx100, H⟩ := bd_some H;obtain ⟨r102, hr102, H⟩ := bd_some H;obtain ⟨l103, hl103, H⟩ := bd_some H;refine C_region ?_;refine W_move rfl rfl ?_;refine W_move rfl rfl ?_;refine W_move rfl rfl ?_;obtain ⟨hp105, hy105⟩ := ix_some hx100;obtain ⟨cs105, hr105, he105⟩ := (h0.mono le93).at_ hy105;obtain ⟨ue101_0, rfl, hue101_0⟩ := hr105;replace he105 : Elf _ _ 2 _ _ := he105;refine W_ix rfl Try.underlying27 Ty.cells34 Ty.info34 rfl rfl (he105.el hS93.agree) hp105 rfl ?_;refine W_fld 1 rfl Ty.field34_1 rfl (he105.el hS93.agree) ?_;refine W_ld1 1 rfl Ty.cell25 rfl (he105.el hS93.agree) (by omega) rfl ?_;refine W_call rfl Ty.named83 rfl (cellarerref01_Cut_ok hS93.agree hue101_0 hr102) ?_;rintro ur102_0 w106 ⟨Fr102, _, rfl, hT106⟩;have hS106 := hS93.call hT106;have ler102 := hT106.ext;refine W_appM 1 rfl Try.underlying52 Ty.row25 rfl rfl rfl rfl rfl hS106 rfl (hS106.rowSrc (j := 0) rfl) hl103 ?_;intro v104 w104 hS104;refine W_assign rfl rfl ?_;refine W_nil ?_;refine N_block ?_;refine N_code ?_;refine C_region ?_;refine W_move rfl rfl ?_;refine W_add rfl rfl rfl rfl ?_;refine W_assign rfl rfl ?_;refine W_nil ?_;exact N_againM (l103, wr (i97 + 1)) _ H ⟨Fr102, v104, rfl, (le93.trans ler102), hS104.pick [1] (by decide)⟩ ⟨rfl, rfl, rfl, trivial⟩
   ·rw [if_f hc99] at H;refine C_exit _ rfl ?_;exact N_join _ ⟨l94, H, ⟨F93, u95, rfl, le93, hS93⟩⟩ ⟨rfl, trivial⟩
 ·rintro E w1 ⟨l2, H, F1, u3, rfl, le1, hS1⟩;dsimp only [cellarerlaw17_apart.k1] at H;refine C_seq_join (fun E wq => cellarerlaw17_apart.k2 = some r ∧ ∃ (F5 : Frz), E = [] ∧ F1.le F5 ∧ St [] w F F5 [] wq) ?_ ?_
  ·refine C_seq ?_;refine C_region ?_;refine W_assign rfl rfl ?_;refine W_nil ?_;refine N_code ?_;refine C_block ?_;refine C_loopM (fun (s : Int) E wq => ∃ (F6 : Frz), E = [(3, u3), (5, .int .i64 s)] ∧ F1.le F6 ∧ St [] w F F6 [.row (tSl tB) 25 u3 l2] wq) H ?_ ?_
   ·exact ⟨_, ⟨F1, rfl, (Frz.le.refl _), hS1⟩, ⟨rfl, rfl, trivial⟩⟩
   ·rintro rec8 i7 E w6 hI H;(try dsimp only at hI);obtain ⟨F6, rfl, le6, hS6⟩ := hI;dsimp only [cellarerlaw17_apart.l3] at H;refine C_seq ?_;refine C_seq ?_;refine C_region ?_;refine W_move rfl rfl ?_;refine W_move rfl rfl ?_;refine W_lenv rfl Try.underlying52 rfl (hS6.rowLn (k := 0) rfl) ?_;refine W_lss rfl rfl rfl ?_;refine W_nil ?_;refine N_code ?_;refine C_cond rfl (fun hc9 => ?_) (fun hc9 => ?_)
    ·rw [if_t hc9] at H;refine C_skip ?_;refine N_code ?_;refine C_seq_join (fun E wq => cellarerlaw17_apart.k4 i7 rec8 = some r ∧ ∃ (F10 : Frz), E = [(3, u3), (5, .int .i64 i7)] ∧ F6.le F10 ∧ St [] w F F10 [.row (tSl tB) 25 u3 l2] wq) ?_ ?_
     ·refine C_block ?_;refine C_seq ?_;refine C_region ?_;refine W_assign rfl rfl ?_;refine W_nil ?_;refine N_code ?_;refine C_block ?_;refine C_loopM (fun (s : Int) E wq => ∃ (F11 : Frz), E = [(3, u3), (5, .int .i64 i7), (6, .int .i64 s)] ∧ F6.le F11 ∧ St [] w F F11 [.row (tSl tB) 25 u3 l2] wq) H ?_ ?_
      ·exact ⟨_, ⟨F6, rfl, (Frz.le.refl _), hS6⟩, ⟨rfl, rfl, rfl, trivial⟩⟩
      ·rintro rec13 i12 E w11 hI H;(try dsimp only at hI);obtain ⟨F11, rfl, le11, hS11⟩ := hI;dsimp only [cellarerlaw17_apart.l5] at H;refine C_seq ?_;refine C_seq ?_;refine C_region ?_;refine W_move rfl rfl ?_;refine W_move rfl rfl ?_;refine W_lss rfl rfl rfl ?_;refine W_nil ?_;refine N_code ?_;refine C_cond rfl (fun hc14 => ?_) (fun hc14 => ?_)
       ·rw [if_t hc14] at H;refine C_skip ?_;refine N_code ?_;refine C_seq ?_;refine C_block ?_;refine C_seq ?_;obtain ⟨x15, hx15, H⟩ := bd_some H;obtain ⟨r17, hr17, H⟩ := bd_some H;obtain ⟨x18, hx18, H⟩ := bd_some H;obtain ⟨r20, hr20, H⟩ := bd_some H;obtain ⟨x21, hx21, H⟩ := bd_some H;obtain ⟨x23, hx23, H⟩ := bd_some H;obtain ⟨r25, hr25, H⟩ := bd_some H;refine C_join (fun E wq => E = [(3, u3), (5, .int .i64 i7), (6, .int .i64 i12), (54, .bool (decide (r17 = r20) && (!r25)))] ∧ ∃ F26 : Frz, F11.le F26 ∧ St [] w F F26 [.row (tSl tB) 25 u3 l2] wq) ?_ ?_
        ·
         rcases Bool.eq_false_or_eq_true (decide (r17 = r20)) with hb27 | hb27
         ·obtain ⟨hp28, hy28⟩ := ix_some hx15;obtain ⟨cs28, hr28, he28⟩ := hS11.rowAt (k := 0) rfl hy28;obtain ⟨ue16, rfl, hue16⟩ := hr28;replace he28 : El _ _ 1 _ _ := he28;obtain ⟨hp29, hy29⟩ := ix_some hx18;obtain ⟨cs29, hr29, he29⟩ := hS11.rowAt (k := 0) rfl hy29;obtain ⟨ue19, rfl, hue19⟩ := hr29;replace he29 : El _ _ 1 _ _ := he29;have hy30 := hx21;rw [only_t hb27] at hy30;obtain ⟨hp31, hy31⟩ := ix_some hy30;obtain ⟨cs31, hr31, he31⟩ := hS11.rowAt (k := 0) rfl hy31;obtain ⟨ue22, rfl, hue22⟩ := hr31;replace he31 : El _ _ 1 _ _ := he31;have hy32 := hx23;rw [only_t hb27] at hy32;obtain ⟨hp33, hy33⟩ := ix_some hy32;obtain ⟨cs33, hr33, he33⟩ := hS11.rowAt (k := 0) rfl hy33;obtain ⟨ue24, rfl, hue24⟩ := hr33;replace he33 : El _ _ 1 _ _ := he33
          apply C_draw 22 [[], [], [0, 1], [2], [3], [], [], [5, 6], [7], [8], [4, 9], [10], [11], [11], [12, 13, 11], [14, 11], [11], [11], [16, 17, 11], [18, 11], [15, 19, 11], [20, 11]] [.val (u3), .val (.int .i64 i7), .val (elp u3 (i7.toNat * 1)), .val (ue16), .pred (fun v wz => ∃ Fr17, (v = .agg (idCells r17).toArray ∧ (r17).length = 32) ∧ St [] w11 F11 Fr17 [] wz) stable_ex, .val (u3), .val (.int .i64 i12), .val (elp u3 (i12.toNat * 1)), .val (ue19), .pred (fun v wz => ∃ Fr20, (v = .agg (idCells r20).toArray ∧ (r20).length = 32) ∧ St [] w11 F11 Fr20 [] wz) stable_ex, .val (.bool (decide (r17 = r20))), .val (.bool true), .val (u3), .val (.int .i64 i7), .val (elp u3 (i7.toNat * 1)), .val (ue22), .val (u3), .val (.int .i64 i12), .val (elp u3 (i12.toNat * 1)), .val (ue24), .val (.bool r25), .val (.bool (!r25))] Ty.mixed rfl rfl (by kernel_rfl) (by kernel_rfl) rfl
          ·refine ⟨?_, ?_, ?_, ?_, ?_, ?_, ?_, ?_, ?_, ?_, ?_, ?_, ?_, ?_, ?_, ?_, ?_, ?_, ?_, ?_, ?_, ?_, trivial⟩
           ·intro _ _ _ _;refine W_move rfl rfl ?_;exact Zs rfl rfl
           ·intro _ _ _ _;refine W_move rfl rfl ?_;exact Zs rfl rfl
           ·intro w36 vq36 hB36 hH36;have hS36 := hS11.below hB36;refine W_ix rfl Try.underlying52 Ty.cells25 Ty.info25 rfl rfl (he28.below hB36) hp28 rfl ?_;exact Zs rfl rfl
           ·intro w37 vq37 hB37 hH37;have hS37 := hS11.below hB37;refine W_ld1 0 rfl Ty.cell25 rfl (he28.below hB37) (by omega) rfl ?_;exact Zs rfl rfl
           ·intro w38 vq38 hB38 hH38;have hS38 := hS11.below hB38;refine W_call rfl Ty.named84 rfl (shaId_ok hS38.agree hue16 hr17) ?_;rintro v39 w39 ⟨Fr17, rfl, hlr17_0, hT39⟩;have hS39 := (St.from hS11.agree hB38).call hT39;refine W_nil ?_;exact N_step rfl ⟨Fr17, ⟨rfl, hlr17_0⟩, hS39⟩ hT39.below0
           ·intro _ _ _ _;refine W_move rfl rfl ?_;exact Zs rfl rfl
           ·intro _ _ _ _;refine W_move rfl rfl ?_;exact Zs rfl rfl
           ·intro w42 vq42 hB42 hH42;have hS42 := hS11.below hB42;refine W_ix rfl Try.underlying52 Ty.cells25 Ty.info25 rfl rfl (he29.below hB42) hp29 rfl ?_;exact Zs rfl rfl
           ·intro w43 vq43 hB43 hH43;have hS43 := hS11.below hB43;refine W_ld1 0 rfl Ty.cell25 rfl (he29.below hB43) (by omega) rfl ?_;exact Zs rfl rfl
           ·intro w44 vq44 hB44 hH44;have hS44 := hS11.below hB44;refine W_call rfl Ty.named84 rfl (shaId_ok hS44.agree hue19 hr20) ?_;rintro v45 w45 ⟨Fr20, rfl, hlr20_0, hT45⟩;have hS45 := (St.from hS11.agree hB44).call hT45;refine W_nil ?_;exact N_step rfl ⟨Fr20, ⟨rfl, hlr20_0⟩, hS45⟩ hT45.below0
           ·intro w46 vq46 hB46 hH46;obtain ⟨⟨Fr17, ⟨he46_4, hlr17_0⟩, hTcr17⟩, ⟨Fr20, ⟨he46_9, hlr20_0⟩, hTcr20⟩, _⟩ := hH46;obtain ⟨F47, la47, lb47, hm47⟩ := hTcr17.merge hTcr20;have hS46 := hS11.call hm47;have le46 := hm47.ext;refine W_eqv (t := 36) rfl he46_4 ?_;refine W_eqv (t := 41) rfl he46_9 ?_;refine W_eqlI rfl Try.underlying57 Try.underlying5 Ty.cells5 Ty.info5 (by kernel_rfl) rfl rfl hlr17_0 hlr20_0 ?_;exact Zs rfl rfl
           ·intro w48 vq48 hB48 hH48;have hS48 := hS11.below hB48;refine W_move rfl rfl ?_;refine W_nil ?_;exact N_step rfl (congrArg Value.bool hb27) (Below.refl _ _)
           ·intro _ _ _ _;refine W_guard_yes rfl ?_;refine W_move rfl rfl ?_;exact Zs rfl rfl
           ·intro _ _ _ _;refine W_guard_yes rfl ?_;refine W_move rfl rfl ?_;exact Zs rfl rfl
           ·intro w51 vq51 hB51 hH51;have hS51 := hS11.below hB51;refine W_guard_yes rfl ?_;refine W_ix rfl Try.underlying52 Ty.cells25 Ty.info25 rfl rfl (he31.below hB51) hp31 rfl ?_;exact Zs rfl rfl
           ·intro w52 vq52 hB52 hH52;have hS52 := hS11.below hB52;refine W_guard_yes rfl ?_;refine W_ld1 0 rfl Ty.cell25 rfl (he31.below hB52) (by omega) rfl ?_;exact Zs rfl rfl
           ·intro _ _ _ _;refine W_guard_yes rfl ?_;refine W_move rfl rfl ?_;exact Zs rfl rfl
           ·intro _ _ _ _;refine W_guard_yes rfl ?_;refine W_move rfl rfl ?_;exact Zs rfl rfl
           ·intro w55 vq55 hB55 hH55;have hS55 := hS11.below hB55;refine W_guard_yes rfl ?_;refine W_ix rfl Try.underlying52 Ty.cells25 Ty.info25 rfl rfl (he33.below hB55) hp33 rfl ?_;exact Zs rfl rfl
           ·intro w56 vq56 hB56 hH56;have hS56 := hS11.below hB56;refine W_guard_yes rfl ?_;refine W_ld1 0 rfl Ty.cell25 rfl (he33.below hB56) (by omega) rfl ?_;exact Zs rfl rfl
           ·intro w57 vq57 hB57 hH57;have hS57 := hS11.below hB57;refine W_guard_yes rfl ?_;have hy58 := hr25;rw [only_t hb27] at hy58;refine W_call rfl Ty.named28 rfl (cellarerkeep_Bytes_ok hS57.agree hue22 hue24 hy58) ?_;rintro v59 w59 ⟨Fr25, rfl, hT59⟩;have hS59 := hS57.lent hT59;refine W_nil ?_;exact N_step rfl rfl hT59.below0
           ·intro _ _ _ _;refine W_guard_yes rfl ?_;refine W_not rfl rfl ?_;exact Zs rfl rfl
          intro w61 vq61 hB61 hH61;obtain ⟨_, _, _, _, ⟨Fr17, ⟨he61_4, hlr17_0⟩, hTcr17⟩, _, _, _, _, ⟨Fr20, ⟨he61_9, hlr20_0⟩, hTcr20⟩, _, _, _, _, _, _, _, _, _, _, _, _, _⟩ := hH61;obtain ⟨F62, la62, lb62, hm62⟩ := hTcr17.merge hTcr20;have hS61 := hS11.call hm62;have le61 := hm62.ext;refine W_eqv (t := 36) rfl he61_4 ?_;refine W_eqv (t := 41) rfl he61_9 ?_;refine W_pick_t rfl rfl rfl ?_;refine W_nil ?_;exact N_join _ ⟨rfl, F62, le61, hS61⟩ ⟨rfl, rfl, rfl, (look_bool rfl (by first | rfl | (rw [hb27]; first | done | rfl) | simp [hb27])), trivial⟩
         ·obtain ⟨hp63, hy63⟩ := ix_some hx15;obtain ⟨cs63, hr63, he63⟩ := hS11.rowAt (k := 0) rfl hy63;obtain ⟨ue16, rfl, hue16⟩ := hr63;replace he63 : El _ _ 1 _ _ := he63;obtain ⟨hp64, hy64⟩ := ix_some hx18;obtain ⟨cs64, hr64, he64⟩ := hS11.rowAt (k := 0) rfl hy64;obtain ⟨ue19, rfl, hue19⟩ := hr64;replace he64 : El _ _ 1 _ _ := he64
          apply C_draw 22 [[], [], [0, 1], [2], [3], [], [], [5, 6], [7], [8], [4, 9], [10], [11], [11], [12, 13, 11], [14, 11], [11], [11], [16, 17, 11], [18, 11], [15, 19, 11], [20, 11]] [.val (u3), .val (.int .i64 i7), .val (elp u3 (i7.toNat * 1)), .val (ue16), .pred (fun v wz => ∃ Fr17, (v = .agg (idCells r17).toArray ∧ (r17).length = 32) ∧ St [] w11 F11 Fr17 [] wz) stable_ex, .val (u3), .val (.int .i64 i12), .val (elp u3 (i12.toNat * 1)), .val (ue19), .pred (fun v wz => ∃ Fr20, (v = .agg (idCells r20).toArray ∧ (r20).length = 32) ∧ St [] w11 F11 Fr20 [] wz) stable_ex, .val (.bool (decide (r17 = r20))), .val (.bool false), .val undef, .val undef, .val undef, .val undef, .val undef, .val undef, .val undef, .val undef, .val undef, .val undef] Ty.mixed rfl rfl (by kernel_rfl) (by kernel_rfl) rfl
          ·refine ⟨?_, ?_, ?_, ?_, ?_, ?_, ?_, ?_, ?_, ?_, ?_, ?_, ?_, ?_, ?_, ?_, ?_, ?_, ?_, ?_, ?_, ?_, trivial⟩
           ·intro _ _ _ _;refine W_move rfl rfl ?_;exact Zs rfl rfl
           ·intro _ _ _ _;refine W_move rfl rfl ?_;exact Zs rfl rfl
           ·intro w67 vq67 hB67 hH67;have hS67 := hS11.below hB67;refine W_ix rfl Try.underlying52 Ty.cells25 Ty.info25 rfl rfl (he63.below hB67) hp63 rfl ?_;exact Zs rfl rfl
           ·intro w68 vq68 hB68 hH68;have hS68 := hS11.below hB68;refine W_ld1 0 rfl Ty.cell25 rfl (he63.below hB68) (by omega) rfl ?_;exact Zs rfl rfl
           ·intro w69 vq69 hB69 hH69;have hS69 := hS11.below hB69;refine W_call rfl Ty.named84 rfl (shaId_ok hS69.agree hue16 hr17) ?_;rintro v70 w70 ⟨Fr17, rfl, hlr17_0, hT70⟩;have hS70 := (St.from hS11.agree hB69).call hT70;refine W_nil ?_;exact N_step rfl ⟨Fr17, ⟨rfl, hlr17_0⟩, hS70⟩ hT70.below0
           ·intro _ _ _ _;refine W_move rfl rfl ?_;exact Zs rfl rfl
           ·intro _ _ _ _;refine W_move rfl rfl ?_;exact Zs rfl rfl
           ·intro w73 vq73 hB73 hH73;have hS73 := hS11.below hB73;refine W_ix rfl Try.underlying52 Ty.cells25 Ty.info25 rfl rfl (he64.below hB73) hp64 rfl ?_;exact Zs rfl rfl
           ·intro w74 vq74 hB74 hH74;have hS74 := hS11.below hB74;refine W_ld1 0 rfl Ty.cell25 rfl (he64.below hB74) (by omega) rfl ?_;exact Zs rfl rfl
           ·intro w75 vq75 hB75 hH75;have hS75 := hS11.below hB75;refine W_call rfl Ty.named84 rfl (shaId_ok hS75.agree hue19 hr20) ?_;rintro v76 w76 ⟨Fr20, rfl, hlr20_0, hT76⟩;have hS76 := (St.from hS11.agree hB75).call hT76;refine W_nil ?_;exact N_step rfl ⟨Fr20, ⟨rfl, hlr20_0⟩, hS76⟩ hT76.below0
           ·intro w77 vq77 hB77 hH77;obtain ⟨⟨Fr17, ⟨he77_4, hlr17_0⟩, hTcr17⟩, ⟨Fr20, ⟨he77_9, hlr20_0⟩, hTcr20⟩, _⟩ := hH77;obtain ⟨F78, la78, lb78, hm78⟩ := hTcr17.merge hTcr20;have hS77 := hS11.call hm78;have le77 := hm78.ext;refine W_eqv (t := 36) rfl he77_4 ?_;refine W_eqv (t := 41) rfl he77_9 ?_;refine W_eqlI rfl Try.underlying57 Try.underlying5 Ty.cells5 Ty.info5 (by kernel_rfl) rfl rfl hlr17_0 hlr20_0 ?_;exact Zs rfl rfl
           ·intro w79 vq79 hB79 hH79;have hS79 := hS11.below hB79;refine W_move rfl rfl ?_;refine W_nil ?_;exact N_step rfl (congrArg Value.bool hb27) (Below.refl _ _)
           ·intro _ _ _ _;refine W_guard_no rfl rfl rfl rfl rfl ?_;exact Zs rfl rfl
           ·intro _ _ _ _;refine W_guard_no rfl rfl rfl rfl rfl ?_;exact Zs rfl rfl
           ·intro _ _ _ _;refine W_guard_no rfl rfl rfl rfl rfl ?_;exact Zs rfl rfl
           ·intro _ _ _ _;refine W_guard_no rfl rfl rfl rfl rfl ?_;exact Zs rfl rfl
           ·intro _ _ _ _;refine W_guard_no rfl rfl rfl rfl rfl ?_;exact Zs rfl rfl
           ·intro _ _ _ _;refine W_guard_no rfl rfl rfl rfl rfl ?_;exact Zs rfl rfl
           ·intro _ _ _ _;refine W_guard_no rfl rfl rfl rfl rfl ?_;exact Zs rfl rfl
           ·intro _ _ _ _;refine W_guard_no rfl rfl rfl rfl rfl ?_;exact Zs rfl rfl
           ·intro _ _ _ _;refine W_guard_no rfl rfl rfl rfl rfl ?_;exact Zs rfl rfl
           ·intro _ _ _ _;refine W_guard_no rfl rfl rfl rfl rfl ?_;exact Zs rfl rfl
          intro w90 vq90 hB90 hH90;obtain ⟨_, _, _, _, ⟨Fr17, ⟨he90_4, hlr17_0⟩, hTcr17⟩, _, _, _, _, ⟨Fr20, ⟨he90_9, hlr20_0⟩, hTcr20⟩, _, _, _, _, _, _, _, _, _, _, _, _, _⟩ := hH90;obtain ⟨F91, la91, lb91, hm91⟩ := hTcr17.merge hTcr20;have hS90 := hS11.call hm91;have le90 := hm91.ext;refine W_eqv (t := 36) rfl he90_4 ?_;refine W_eqv (t := 41) rfl he90_9 ?_;refine W_pick_f rfl rfl rfl ?_;refine W_nil ?_;exact N_join _ ⟨rfl, F91, le90, hS90⟩ ⟨rfl, rfl, rfl, (look_bool rfl (by first | rfl | (rw [hb27]; first | done | rfl) | simp [hb27])), trivial⟩
        rintro E w26 ⟨rfl, F26, le26, hS26⟩;refine N_code ?_;refine C_cond rfl (fun hc92 => ?_) (fun hc92 => ?_)
        ·rw [if_t hc92] at H;refine C_seq ?_;refine C_region ?_;refine W_assign rfl rfl ?_;refine W_nil ?_;refine N_code ?_;obtain rfl := Option.some.inj H;refine C_ret rfl rfl ?_;exact ⟨F26, rfl, hS26.pick [] (by decide)⟩
        ·rw [if_f hc92] at H;refine C_skip ?_;refine N_block ?_;refine N_code ?_;refine C_region ?_;refine W_move rfl rfl ?_;refine W_add rfl rfl rfl rfl ?_;refine W_assign rfl rfl ?_;refine W_nil ?_;exact N_againM (wr (i12 + 1)) _ H ⟨F26, rfl, (le11.trans le26), hS26⟩ ⟨rfl, rfl, rfl, trivial⟩
       ·rw [if_f hc14] at H;refine C_exit _ rfl ?_;refine N_block ?_;exact N_join _ ⟨H, ⟨F11, rfl, le11, hS11⟩⟩ ⟨rfl, rfl, trivial⟩
     ·rintro E w10 ⟨H, F10, rfl, le10, hS10⟩;dsimp only [cellarerlaw17_apart.k4] at H;refine C_region ?_;refine W_move rfl rfl ?_;refine W_add rfl rfl rfl rfl ?_;refine W_assign rfl rfl ?_;refine W_nil ?_;exact N_againM (wr (i7 + 1)) _ H ⟨F10, rfl, (le6.trans le10), hS10⟩ ⟨rfl, rfl, trivial⟩
    ·rw [if_f hc9] at H;refine C_exit _ rfl ?_;exact N_join _ ⟨H, ⟨F6, rfl, le6, hS6.pick [] (by decide)⟩⟩ trivial
  ·rintro E w5 ⟨H, F5, rfl, le5, hS5⟩;dsimp only [cellarerlaw17_apart.k2] at H;refine C_seq ?_;refine C_region ?_;refine W_assign rfl rfl ?_;refine W_nil ?_;refine N_code ?_;obtain rfl := Option.some.inj H;refine C_ret rfl rfl ?_;exact ⟨F5, rfl, hS5⟩

def manifest_Join.k3 (l12 : List File) : Option ((List File) × Int) :=
  some (l12, 0)


def manifest_Join.k5 (i19 : Int) (rec20 : ((List File) × Int) → Option ((List File) × Int)) (l23 : List File) : Option ((List File) × Int) :=
  rec20 (l23, wr (i19 + 1))


def manifest_Join.k6 (l16 : List File) (i19 : Int) (rec20 : ((List File) × Int) → Option ((List File) × Int)) (x26 : Part) (l34 : List UInt8) : Option ((List File) × Int) :=
  if decide ((l34.length : Int) ≠ x26.size) then
    some ([], 2)
  else
    bd (app (α := File) l16 [(File.mk x26.path l34)]) fun l41 =>
    manifest_Join.k5 i19 rec20 l41


def manifest_Join.l7 (m9 : (List UInt8) → Option (List UInt8)) (l16 : List File) (i19 : Int) (rec20 : ((List File) × Int) → Option ((List File) × Int)) (x26 : Part) (rec49 : (Int × (List UInt8)) → Option ((List File) × Int)) : (Int × (List UInt8)) → Option ((List File) × Int)
  | (i45, l46) =>
    if decide (i45 < (x26.ids.length : Int)) then
      bd (ix x26.ids i45) fun x51 =>
      bd (app (α := UInt8) l46 ((m9 x51).getD [])) fun l57 =>
      rec49 (wr (i45 + 1), l57)
    else
      manifest_Join.k6 l16 i19 rec20 x26 l46


def manifest_Join.l4 (x0 : Manifest) (m9 : (List UInt8) → Option (List UInt8)) (rec20 : ((List File) × Int) → Option ((List File) × Int)) : ((List File) × Int) → Option ((List File) × Int)
  | (l16, i19) =>
    if decide (i19 < (x0.parts.length : Int)) then
      bd (ix x0.parts i19) fun x26 =>
      loop (manifest_Join.l7 m9 l16 i19 rec20 x26) (0, [])
    else
      manifest_Join.k3 l16


def manifest_Join.k2 (x0 : Manifest) (m9 : (List UInt8) → Option (List UInt8)) : Option ((List File) × Int) :=
  loop (manifest_Join.l4 x0 m9) ([], 0)


def manifest_Join.l8 (x0 : Manifest) (m9 : (List UInt8) → Option (List UInt8)) (r70 : (List (List UInt8))) (rec74 : Int → Option ((List File) × Int)) : Int → Option ((List File) × Int)
  | i73 =>
    if decide (i73 < (r70.length : Int)) then
      bd (ix r70 i73) fun x76 =>
      if (!(m9 x76).isSome) then
        some ([], 8)
      else
        rec74 (wr (i73 + 1))
    else
      manifest_Join.k2 x0 m9


def manifest_Join.k1 (x0 : Manifest) (m9 : (List UInt8) → Option (List UInt8)) : Option ((List File) × Int) :=
  bd (manifest_Ids x0) fun r70 =>
  loop (manifest_Join.l8 x0 m9 r70) 0


def manifest_Join.l9 (x0 : Manifest) (x1 : List (List UInt8)) (rec88 : (Int × ((List UInt8) → Option (List UInt8))) → Option ((List File) × Int)) : (Int × ((List UInt8) → Option (List UInt8))) → Option ((List File) × Int)
  | (i86, m87) =>
    if decide (i86 < (x1.length : Int)) then
      bd (ix x1 i86) fun x90 =>
      bd (shaSum [x90]) fun r94 =>
      rec88 (wr (i86 + 1), (mput m87 r94 x90))
    else
      manifest_Join.k1 x0 m87

def manifest_Join (x0 : Manifest) (x1 : List (List UInt8)) : Option ((List File) × Int) :=
  bd (manifest_Check x0) fun r2 =>
  if decide (r2 ≠ 0) then
    some ([], r2)
  else
    loop (manifest_Join.l9 x0 x1) (0, (mnil : (List UInt8) → Option (List UInt8)))

theorem manifest_Join_ok {F : Frz} {w : World} {x0 : Manifest} {x1 : List (List UInt8)} {r : (List File) × Int} {v0_0 : Value} {v1 : Value} (hA : Agree F w.heap) (h0_0 : SlF Part.t F v0_0 x0.parts) (h1 : SlF (tSl tB) F v1 x1) (H : manifest_Join x0 x1 = some r) : Ret Try.prog 44 #[.agg (Manifest.cells x0 v0_0).toArray, v1] w fun v w' => ∃ (F' : Frz) (q0 : Value), v = .tuple #[q0, .int .i64 r.2] ∧ St [] w F F' [.row File.t 34 q0 (r.1)] w' := by
 refine Ret_of (args := [.agg (Manifest.cells x0 v0_0).toArray, v1]) Try.func44 rfl rfl ?_;change C _ _ _ _ [(0, .agg (Manifest.cells x0 v0_0).toArray), (1, v1)] _;have hS := St.entry hA;dsimp only [manifest_Join] at H;refine C_seq ?_;refine C_region ?_;refine W_bx (cs := [strV x0.name, v0_0]) rfl rfl rfl hS ?_;intro g1 w1 hS1;refine W_assign rfl rfl ?_;refine W_assign rfl rfl ?_;refine W_nil ?_;refine N_code ?_;refine C_seq ?_;obtain ⟨r2, hr2, H⟩ := bd_some H;refine C_region ?_;refine W_bldg 0 ((Manifest.cells x0 v0_0)) rfl Ty.agg45 Ty.size45 rfl hS1 rfl (fun q u h => sub_at (post := []) rfl h) ?_;refine W_call rfl Ty.named47 rfl (manifest_Check_ok hS1.agree h0_0 hr2) ?_;rintro v3 w3 ⟨Fr2, rfl, hT3⟩;have hS3 := hS1.lent hT3;refine W_assign rfl rfl ?_;refine W_nil ?_;refine N_code ?_;refine C_seq ?_;refine C_seq ?_;refine C_region ?_;refine W_move rfl rfl ?_;refine W_neq rfl rfl rfl ?_;refine W_nil ?_;refine N_code ?_;refine C_cond rfl (fun hc4 => ?_) (fun hc4 => ?_)
 ·rw [if_t hc4] at H;refine C_seq ?_;refine C_region ?_;refine W_move rfl rfl ?_;refine W_assign rfl rfl ?_;refine W_assign rfl rfl ?_;refine W_nil ?_;refine N_code ?_;have hS6 := hS3.nilRow File.t 34;obtain rfl := Option.some.inj H;refine C_ret rfl rfl ?_;exact ⟨F, (.slice none 0 0), rfl, hS6.pick [0] (by decide)⟩
 ·rw [if_f hc4] at H;refine C_skip ?_;refine N_code ?_;refine C_seq ?_;refine C_region ?_;refine W_mkmap (ktId Try.underlying57 Try.underlying5 Ty.cells5 Ty.info5) (tFz (tSl tB)) rfl hS3 ?_;intro g7 w7 hS7;refine W_assign rfl rfl ?_;refine W_nil ?_;refine N_code ?_;refine C_seq_join (fun E wq => ∃ m9 : (List UInt8) → Option (List UInt8), manifest_Join.k1 x0 m9 = some r ∧ ∃ (F8 : Frz), E = [(2, pl g1 0), (7, .map (some g7))] ∧ F.le F8 ∧ St [] w F F8 [.deep (tMap (ktId Try.underlying57 Try.underlying5 Ty.cells5 Ty.info5) (tFz (tSl tB)) noHole) [g7] [.map (some g7)] m9, .box g1 45 [strV x0.name, v0_0]] wq) ?_ ?_
  ·refine C_seq ?_;refine C_region ?_;refine W_move rfl rfl ?_;refine W_lenv rfl Try.underlying52 rfl h1.ln ?_;refine W_move rfl rfl ?_;refine W_nil ?_;refine N_code ?_;refine C_block ?_;refine C_loopM (fun (s : Int × ((List UInt8) → Option (List UInt8))) E wq => ∃ (F85 : Frz), E = [(2, pl g1 0), (7, .map (some g7)), (26, v1), (27, .int .i64 (x1.length : Int)), (28, .int .i64 s.1)] ∧ F.le F85 ∧ St [] w F F85 [.deep (tMap (ktId Try.underlying57 Try.underlying5 Ty.cells5 Ty.info5) (tFz (tSl tB)) noHole) [g7] [.map (some g7)] s.2, .box g1 45 [strV x0.name, v0_0]] wq) H ?_ ?_
   ·exact ⟨_, ⟨F, rfl, (Frz.le.refl _), hS7⟩, ⟨rfl, rfl, rfl, rfl, rfl, trivial⟩⟩
   ·rintro rec88 ⟨i86, m87⟩ E w85 hI H;(try dsimp only at hI);obtain ⟨F85, rfl, le85, hS85⟩ := hI;dsimp only [manifest_Join.l9] at H;refine C_seq ?_;refine C_region ?_;refine W_lss rfl rfl rfl ?_;refine W_nil ?_;refine N_code ?_;refine C_seq ?_;refine C_cond rfl (fun hc89 => ?_) (fun hc89 => ?_)
    ·rw [if_t hc89] at H;refine C_skip ?_;refine N_code ?_;refine C_seq ?_;refine C_block ?_;refine C_seq ?_;obtain ⟨x90, hx90, H⟩ := bd_some H;refine C_region ?_;obtain ⟨hp92, hy92⟩ := ix_some hx90;obtain ⟨cs92, hr92, he92⟩ := (h1.mono le85).at_ hy92;obtain ⟨ue91, rfl, hue91⟩ := hr92;replace he92 : Elf _ _ 1 _ _ := he92;refine W_ix rfl Try.underlying52 Ty.cells25 Ty.info25 rfl rfl (he92.el hS85.agree) hp92 rfl ?_;refine W_ld1 0 rfl Ty.cell25 rfl (he92.el hS85.agree) (by omega) rfl ?_;refine W_assign rfl rfl ?_;refine W_nil ?_;refine N_code ?_;obtain ⟨r94, hr94, H⟩ := bd_some H;refine C_region ?_;refine W_move rfl rfl ?_;refine W_move rfl rfl ?_;refine W_bs (t := (tSl tB)) [[ue91]] [x90] rfl Try.underlying52 Ty.cells25 rfl rfl Ty.zero25 rfl (by simp [(hue91.ln).cells]) ⟨⟨_, rfl, hue91⟩, trivial⟩ rfl rfl hS85 ?_;intro u93 w93 hS93;refine W_call rfl Ty.named34 rfl (shaSum_ok (now_agree _) (hS93.rowNow (k := 0) rfl) hr94) ?_;rintro v96 w96 ⟨Fr94, rfl, hlr94_0, hT96⟩;have hS96 := hS93.lentFlat hT96 trivial;refine W_move rfl rfl ?_;refine W_mapF (tr := (tSl tB)) (a := r94) (x1 := x90) 1 Try.underlying116 Try.zeroValue25 rfl rfl rfl hlr94_0 rfl ⟨_, rfl, hue91⟩ hS96 rfl ?_;intro w95 hS95;refine W_nil ?_;refine N_block ?_;refine N_code ?_;refine C_region ?_;refine W_add rfl rfl rfl rfl ?_;refine W_move rfl rfl ?_;refine W_nil ?_;exact N_againM (wr (i86 + 1), (mput m87 r94 x90)) _ H ⟨F85, rfl, le85, hS95.pick [1, 2] (by decide)⟩ ⟨rfl, rfl, rfl, rfl, rfl, trivial⟩
    ·rw [if_f hc89] at H;refine C_exit _ rfl ?_;exact N_join _ ⟨m87, H, ⟨F85, rfl, le85, hS85⟩⟩ ⟨rfl, rfl, trivial⟩
  ·rintro E w8 ⟨m9, H, F8, rfl, le8, hS8⟩;dsimp only [manifest_Join.k1] at H;refine C_seq_join (fun E wq => manifest_Join.k2 x0 m9 = some r ∧ ∃ (F10 : Frz), E = [(2, pl g1 0), (7, .map (some g7))] ∧ F8.le F10 ∧ St [] w F F10 [.deep (tMap (ktId Try.underlying57 Try.underlying5 Ty.cells5 Ty.info5) (tFz (tSl tB)) noHole) [g7] [.map (some g7)] m9, .box g1 45 [strV x0.name, v0_0]] wq) ?_ ?_
   ·refine C_seq ?_;obtain ⟨r70, hr70, H⟩ := bd_some H;refine C_region ?_;refine W_bldg 1 ((Manifest.cells x0 v0_0)) rfl Ty.agg45 Ty.size45 rfl hS8 rfl (fun q u h => sub_at (post := []) rfl h) ?_;refine W_call rfl Ty.named35 rfl (manifest_Ids_ok hS8.agree (h0_0.mono le8) hr70) ?_;rintro ur70_0 w71 ⟨Fr70, _, rfl, hT71⟩;have hS71 := hS8.call hT71;have ler70 := hT71.ext;refine W_lenv rfl Try.underlying49 rfl (hS71.rowLn (k := 0) rfl) ?_;refine W_move rfl rfl ?_;refine W_nil ?_;refine N_code ?_;refine C_block ?_;refine C_loopM (fun (s : Int) E wq => ∃ (F72 : Frz), E = [(2, pl g1 0), (7, .map (some g7)), (39, ur70_0), (40, .int .i64 (r70.length : Int)), (41, .int .i64 s)] ∧ Fr70.le F72 ∧ St [] w F F72 [.row tId 57 ur70_0 r70, .deep (tMap (ktId Try.underlying57 Try.underlying5 Ty.cells5 Ty.info5) (tFz (tSl tB)) noHole) [g7] [.map (some g7)] m9, .box g1 45 [strV x0.name, v0_0]] wq) H ?_ ?_
    ·exact ⟨_, ⟨Fr70, rfl, (Frz.le.refl _), hS71⟩, ⟨rfl, rfl, rfl, rfl, rfl, trivial⟩⟩
    ·rintro rec74 i73 E w72 hI H;(try dsimp only at hI);obtain ⟨F72, rfl, le72, hS72⟩ := hI;dsimp only [manifest_Join.l8] at H;refine C_seq ?_;refine C_region ?_;refine W_lss rfl rfl rfl ?_;refine W_nil ?_;refine N_code ?_;refine C_seq ?_;refine C_cond rfl (fun hc75 => ?_) (fun hc75 => ?_)
     ·rw [if_t hc75] at H;refine C_skip ?_;refine N_code ?_;refine C_seq ?_;refine C_block ?_;refine C_seq ?_;obtain ⟨x76, hx76, H⟩ := bd_some H;refine C_region ?_;obtain ⟨hp79, hy79⟩ := ix_some hx76;obtain ⟨cs79, hr79, he79⟩ := hS72.rowAt (k := 0) rfl hy79;obtain ⟨rfl, hle77⟩ := hr79;replace he79 : El _ _ 32 _ _ := he79;refine W_ix rfl Try.underlying49 Ty.cells57 Ty.info57 rfl rfl he79 hp79 rfl ?_;refine W_ldg 0 ((idCells x76)) rfl Ty.agg57 Ty.size57 rfl he79 (by omega) (fun q u h => sub_at (post := []) rfl h) ?_;refine W_alc (cs := idCells (List.replicate 32 (0 : UInt8))) rfl Ty.zero57 rfl hS72 ?_;intro g78 w78 hS78;refine W_bst (c := idCells x76) 0 (idCells x76) rfl rfl hS78 rfl rfl (by rw [Ty.size57]; simp [idCells_len]) (by intro y hy; simp [idCells] at hy; obtain ⟨_, _, rfl⟩ := hy; rfl) (by simp [idCells_len]) (by simp [idCells_len, List.take_append, List.drop_append, List.take_of_length_le, List.drop_eq_nil_of_le]) ?_;intro w80 hS80;refine W_nil ?_;refine N_code ?_;refine C_seq ?_;refine C_region ?_;refine W_move rfl rfl ?_;refine W_bldg 0 ((idCells x76)) rfl Ty.agg57 Ty.size57 rfl hS80 rfl (fun q u h => sub_at (post := []) rfl h) ?_;refine W_lookS2 (a := x76)  2 rfl Try.underlying116 Try.zeroValue25  rfl rfl rfl hle77 hS80 rfl ?_;intro q81 hv81;refine W_move rfl rfl ?_;refine W_extract rfl rfl rfl ?_;refine W_extract rfl rfl rfl ?_;refine W_assign rfl rfl ?_;refine W_assign rfl rfl ?_;refine W_nil ?_;refine N_code ?_;refine C_seq ?_;refine C_region ?_;refine W_move rfl rfl ?_;refine W_not rfl rfl ?_;refine W_nil ?_;refine N_code ?_;refine C_cond rfl (fun hc82 => ?_) (fun hc82 => ?_)
      ·rw [if_t hc82] at H;refine C_seq ?_;refine C_region ?_;refine W_assign rfl rfl ?_;refine W_assign rfl rfl ?_;refine W_nil ?_;refine N_code ?_;have hS84 := hS80.nilRow File.t 34;obtain rfl := Option.some.inj H;refine C_ret rfl rfl ?_;exact ⟨F72, (.slice none 0 0), rfl, hS84.pick [0] (by decide)⟩
      ·rw [if_f hc82] at H;refine C_skip ?_;refine N_block ?_;refine N_code ?_;refine C_region ?_;refine W_add rfl rfl rfl rfl ?_;refine W_move rfl rfl ?_;refine W_nil ?_;exact N_againM (wr (i73 + 1)) _ H ⟨F72, rfl, le72, hS80.pick [1, 2, 3] (by decide)⟩ ⟨rfl, rfl, rfl, rfl, rfl, trivial⟩
     ·rw [if_f hc75] at H;refine C_exit _ rfl ?_;exact N_join _ ⟨H, ⟨F72, rfl, (ler70.trans le72), hS72.pick [1, 2] (by decide)⟩⟩ ⟨rfl, rfl, trivial⟩
   ·rintro E w10 ⟨H, F10, rfl, le10, hS10⟩;dsimp only [manifest_Join.k2] at H;refine C_seq ?_;refine C_region ?_;refine W_assign rfl rfl ?_;refine W_nil ?_;refine N_code ?_;refine C_seq_join (fun E wq => ∃ l12 : List File, manifest_Join.k3 l12 = some r ∧ ∃ (F11 : Frz) (u13 : Value), E = [(14, u13)] ∧ F10.le F11 ∧ St [] w F F11 [.row File.t 34 u13 l12] wq) ?_ ?_
    ·refine C_seq ?_;refine C_region ?_;refine W_field_pl 1 rfl Ty.field45_1 rfl ?_;refine W_bld1 1 rfl Ty.cell43 rfl hS10 rfl rfl ?_;refine W_lenv rfl Try.underlying43 rfl h0_0.ln ?_;refine W_move rfl rfl ?_;refine W_nil ?_;refine N_code ?_;refine C_block ?_;refine C_loopM (fun (s : (List File) × Int) E wq => ∃ (F15 : Frz) (u17 : Value), E = [(7, .map (some g7)), (14, u17), (55, v0_0), (56, .int .i64 (x0.parts.length : Int)), (57, .int .i64 s.2)] ∧ F10.le F15 ∧ St [] w F F15 [.deep (tMap (ktId Try.underlying57 Try.underlying5 Ty.cells5 Ty.info5) (tFz (tSl tB)) noHole) [g7] [.map (some g7)] m9, .row File.t 34 u17 s.1] wq) H ?_ ?_
     ·have hS69 := hS10.nilRow File.t 34;exact ⟨_, ⟨F10, (.slice none 0 0), rfl, (Frz.le.refl _), hS69.pick [1, 0] (by decide)⟩, ⟨rfl, rfl, rfl, rfl, rfl, trivial⟩⟩
     ·rintro rec20 ⟨l16, i19⟩ E w15 hI H;(try dsimp only at hI);obtain ⟨F15, u17, rfl, le15, hS15⟩ := hI;dsimp only [manifest_Join.l4] at H;refine C_seq ?_;refine C_region ?_;refine W_lss rfl rfl rfl ?_;refine W_nil ?_;refine N_code ?_;refine C_seq ?_;refine C_cond rfl (fun hc21 => ?_) (fun hc21 => ?_)
      ·rw [if_t hc21] at H;refine C_skip ?_;refine N_code ?_;refine C_seq_join (fun E wq => ∃ l23 : List File, manifest_Join.k5 i19 rec20 l23 = some r ∧ ∃ (F22 : Frz) (u24 : Value), E = [(7, .map (some g7)), (14, u24), (55, v0_0), (56, .int .i64 (x0.parts.length : Int)), (57, .int .i64 i19)] ∧ F15.le F22 ∧ St [] w F F22 [.deep (tMap (ktId Try.underlying57 Try.underlying5 Ty.cells5 Ty.info5) (tFz (tSl tB)) noHole) [g7] [.map (some g7)] m9, .row File.t 34 u24 l23] wq) ?_ ?_
       ·refine C_block ?_;refine C_seq ?_;obtain ⟨x26, hx26, H⟩ := bd_some H;refine C_region ?_;obtain ⟨hp29, hy29⟩ := ix_some hx26;obtain ⟨cs29, hr29, he29⟩ := (h0_0.mono ((le8.trans le10).trans le15)).at_ hy29;obtain ⟨ue27_0, rfl, hue27_0⟩ := hr29;replace he29 : Elf _ _ 3 _ _ := he29;refine W_ix rfl Try.underlying43 Ty.cells51 Ty.info51 rfl rfl (he29.el hS15.agree) hp29 rfl ?_;refine W_ldg 0 ((Part.cells x26 ue27_0)) rfl Ty.agg51 Ty.size51 rfl (he29.el hS15.agree) (by omega) (fun q u h => sub_at (post := []) rfl h) ?_;refine W_alc (cs := [strV [], .int .i64 0, .slice none 0 0]) rfl Ty.zero51 rfl hS15 ?_;intro g28 w28 hS28;refine W_bst (c := [strV x26.path, .int .i64 x26.size, ue27_0]) 0 ([strV x26.path, .int .i64 x26.size, ue27_0]) rfl rfl hS28 rfl rfl Ty.size51 (fun y hy => Part.t.one (F := F15) (x := x26) ⟨ue27_0, rfl, hue27_0⟩ y hy) (Nat.le_of_ble_eq_true rfl) rfl ?_;intro w30 hS30;refine W_nil ?_;refine N_code ?_;refine C_seq ?_;refine C_region ?_;refine W_field_pl 0 rfl Ty.field51_0 rfl ?_;refine W_bld1 0 rfl Ty.cell9 rfl hS30 rfl rfl ?_;refine W_build (v := .agg (File.cells (File.mk x26.path []) (.slice none 0 0)).toArray) rfl rfl (fun _ => by kernel_rfl) ?_;refine W_alc (cs := [strV [], .slice none 0 0]) rfl Ty.zero34 rfl hS30 ?_;intro g31 w31 hS31;refine W_bst (c := [strV x26.path, .slice none 0 0]) 0 ([strV x26.path, .slice none 0 0]) rfl rfl hS31 rfl rfl Ty.size34 (fun y hy => File.t.one (F := F15) (x := (File.mk x26.path [])) ⟨.slice none 0 0, rfl, (SlF.nil _)⟩ y hy) (Nat.le_of_ble_eq_true rfl) rfl ?_;intro w32 hS32;refine W_nil ?_;refine N_code ?_;refine C_seq_join (fun E wq => ∃ l34 : List UInt8, manifest_Join.k6 l16 i19 rec20 x26 l34 = some r ∧ ∃ (F33 : Frz) (u35 : Value), E = [(7, .map (some g7)), (14, u17), (16, pl g28 0), (17, pl g31 0), (55, v0_0), (56, .int .i64 (x0.parts.length : Int)), (57, .int .i64 i19)] ∧ F15.le F33 ∧ St [] w F F33 [.box g31 34 [strV x26.path, u35], .box g28 51 [strV x26.path, .int .i64 x26.size, ue27_0], .deep (tMap (ktId Try.underlying57 Try.underlying5 Ty.cells5 Ty.info5) (tFz (tSl tB)) noHole) [g7] [.map (some g7)] m9, .row File.t 34 u17 l16, .row tB 5 u35 l34] wq) ?_ ?_
        ·refine C_seq ?_;refine C_region ?_;refine W_field_pl 2 rfl Ty.field51_2 rfl ?_;refine W_bld1 1 rfl Ty.cell49 rfl hS32 rfl rfl ?_;refine W_lenv rfl Try.underlying49 rfl hue27_0.ln ?_;refine W_move rfl rfl ?_;refine W_nil ?_;refine N_code ?_;refine C_block ?_;refine C_loopM (fun (s : Int × (List UInt8)) E wq => ∃ (F44 : Frz) (u47 : Value), E = [(7, .map (some g7)), (14, u17), (16, pl g28 0), (17, pl g31 0), (55, v0_0), (56, .int .i64 (x0.parts.length : Int)), (57, .int .i64 i19), (65, ue27_0), (66, .int .i64 (x26.ids.length : Int)), (67, .int .i64 s.1)] ∧ F15.le F44 ∧ St [] w F F44 [.box g31 34 [strV x26.path, u47], .box g28 51 [strV x26.path, .int .i64 x26.size, ue27_0], .deep (tMap (ktId Try.underlying57 Try.underlying5 Ty.cells5 Ty.info5) (tFz (tSl tB)) noHole) [g7] [.map (some g7)] m9, .row File.t 34 u17 l16, .row tB 5 u47 s.2] wq) H ?_ ?_
         ·have hS67 := hS32.nilRow tB 5;exact ⟨_, ⟨F15, (.slice none 0 0), rfl, (Frz.le.refl _), hS67.pick [1, 2, 3, 4, 0] (by decide)⟩, ⟨rfl, rfl, rfl, rfl, rfl, rfl, rfl, rfl, rfl, rfl, trivial⟩⟩
         ·rintro rec49 ⟨i45, l46⟩ E w44 hI H;(try dsimp only at hI);obtain ⟨F44, u47, rfl, le44, hS44⟩ := hI;dsimp only [manifest_Join.l7] at H;refine C_seq ?_;refine C_region ?_;refine W_lss rfl rfl rfl ?_;refine W_nil ?_;refine N_code ?_;refine C_seq ?_;refine C_cond rfl (fun hc50 => ?_) (fun hc50 => ?_)
          ·rw [if_t hc50] at H;refine C_skip ?_;refine N_code ?_;refine C_seq ?_;refine C_block ?_;refine C_seq ?_;obtain ⟨x51, hx51, H⟩ := bd_some H;refine C_region ?_;obtain ⟨hp54, hy54⟩ := ix_some hx51;obtain ⟨cs54, hr54, he54⟩ := (hue27_0.mono le44).at_ hy54;obtain ⟨rfl, hle52⟩ := hr54;replace he54 : Elf _ _ 32 _ _ := he54;refine W_ix rfl Try.underlying49 Ty.cells57 Ty.info57 rfl rfl (he54.el hS44.agree) hp54 rfl ?_;refine W_ldg 0 ((idCells x51)) rfl Ty.agg57 Ty.size57 rfl (he54.el hS44.agree) (by omega) (fun q u h => sub_at (post := []) rfl h) ?_;refine W_alc (cs := idCells (List.replicate 32 (0 : UInt8))) rfl Ty.zero57 rfl hS44 ?_;intro g53 w53 hS53;refine W_bst (c := idCells x51) 0 (idCells x51) rfl rfl hS53 rfl rfl (by rw [Ty.size57]; simp [idCells_len]) (by intro y hy; simp [idCells] at hy; obtain ⟨_, _, rfl⟩ := hy; rfl) (by simp [idCells_len]) (by simp [idCells_len, List.take_append, List.drop_append, List.take_of_length_le, List.drop_eq_nil_of_le]) ?_;intro w55 hS55;refine W_nil ?_;refine N_code ?_;obtain ⟨l57, hl57, H⟩ := bd_some H
           apply C_draw 5 [[], [0], [], [], [2, 3]] [.val (pl g31 (0 + 1)), .val (u47), .val (.map (some g7)), .val (.agg (idCells x51).toArray), .pred (fun v wz => SlF tB F44 v ((m9 x51).getD [])) stable_slf] Ty.mixed rfl rfl (by kernel_rfl) (by kernel_rfl) rfl
           ·refine ⟨?_, ?_, ?_, ?_, ?_, trivial⟩
            ·intro _ _ _ _;refine W_field_pl 1 rfl Ty.field34_1 rfl ?_;exact Zs rfl rfl
            ·intro w60 vq60 hB60 hH60;have hS60 := hS55.below hB60;refine W_bld1 1 rfl Ty.cell25 rfl hS60 rfl rfl ?_;exact Zs rfl rfl
            ·intro _ _ _ _;refine W_move rfl rfl ?_;exact Zs rfl rfl
            ·intro w62 vq62 hB62 hH62;have hS62 := hS55.below hB62;refine W_bldg 0 ((idCells x51)) rfl Ty.agg57 Ty.size57 rfl hS62 rfl (fun q u h => sub_at (post := []) rfl h) ?_;exact Zs rfl rfl
            ·intro w63 vq63 hB63 hH63;have hS63 := hS55.below hB63;refine W_lookS (a := x51)  3 rfl Try.underlying116 Try.zeroValue25  rfl rfl rfl hle52 hS63 rfl ?_;intro q56 hv56;refine W_nil ?_;exact N_step rfl hv56 (Below.refl _ _)
           intro w64 vq64 hB64 hH64;obtain ⟨_, _, _, _, hp64_4, _⟩ := hH64;have hS64 := hS55.below hB64;refine W_appM 5 rfl Try.underlying25 Ty.row5 rfl rfl rfl rfl rfl hS64 rfl (hp64_4.src hS64.agree) hl57 ?_;intro v58 w58 hS58;refine W_field_pl 1 rfl Ty.field34_1 rfl ?_;refine W_bst (c := [v58]) 1 ([strV x26.path, v58]) rfl rfl hS58 rfl (by rw [(hS58.rowLn (k := 5) rfl).cells]) Ty.size25 (by intro y hy; simp at hy; subst hy; exact (hS58.rowLn (k := 5) rfl).one) (Nat.le_of_ble_eq_true rfl) rfl ?_;intro w65 hS65;refine W_nil ?_;refine N_block ?_;refine N_code ?_;refine C_region ?_;refine W_add rfl rfl rfl rfl ?_;refine W_move rfl rfl ?_;refine W_nil ?_;exact N_againM (wr (i45 + 1), l57) _ H ⟨F44, v58, rfl, le44, hS65.pick [1, 2, 3, 4, 5] (by decide)⟩ ⟨rfl, rfl, rfl, rfl, rfl, rfl, rfl, rfl, rfl, rfl, trivial⟩
          ·rw [if_f hc50] at H;refine C_exit _ rfl ?_;exact N_join _ ⟨l46, H, ⟨F44, u47, rfl, le44, hS44⟩⟩ ⟨rfl, rfl, rfl, rfl, rfl, rfl, rfl, trivial⟩
        ·rintro E w33 ⟨l34, H, F33, u35, rfl, le33, hS33⟩;dsimp only [manifest_Join.k6] at H;refine C_seq ?_;refine C_seq ?_;refine C_region ?_;refine W_field_pl 1 rfl Ty.field34_1 rfl ?_;refine W_bld1 0 rfl Ty.cell25 rfl hS33 rfl rfl ?_;refine W_lenv rfl Try.underlying25 rfl (hS33.rowLn (k := 4) rfl) ?_;refine W_field_pl 1 rfl Ty.field51_1 rfl ?_;refine W_bld1 1 rfl Ty.cell3 rfl hS33 rfl rfl ?_;refine W_neq rfl rfl rfl ?_;refine W_nil ?_;refine N_code ?_;refine C_cond rfl (fun hc37 => ?_) (fun hc37 => ?_)
         ·rw [if_t hc37] at H;refine C_seq ?_;refine C_region ?_;refine W_assign rfl rfl ?_;refine W_assign rfl rfl ?_;refine W_nil ?_;refine N_code ?_;have hS39 := hS33.nilRow File.t 34;obtain rfl := Option.some.inj H;refine C_ret rfl rfl ?_;exact ⟨F33, (.slice none 0 0), rfl, hS39.pick [0] (by decide)⟩
         ·rw [if_f hc37] at H;refine C_skip ?_;refine N_code ?_;obtain ⟨l41, hl41, H⟩ := bd_some H;refine C_region ?_;refine W_move rfl rfl ?_;refine W_bldg 0 ((File.cells (File.mk x26.path l34) u35)) rfl Ty.agg34 Ty.size34 rfl hS33 rfl (fun q u h => sub_at (post := []) rfl h) ?_;obtain ⟨F43, le43, hf43, hS43⟩ := hS33.freeze 4 [0, 1, 2, 3] rfl (by decide) (by decide);refine W_bs (t := File.t) [(File.cells (File.mk x26.path l34) u35)] [(File.mk x26.path l34)] rfl Try.underlying27 Ty.cells34 rfl rfl Ty.zero34 rfl rfl ⟨⟨u35, rfl, hf43⟩, trivial⟩ rfl rfl hS43 ?_;intro u40 w40 hS40;refine W_appM 4 rfl Try.underlying27 Ty.row34 rfl rfl rfl rfl rfl hS40 rfl (hS40.rowSrc (j := 0) rfl) hl41 ?_;intro v42 w42 hS42;refine W_assign rfl rfl ?_;refine W_nil ?_;refine N_block ?_;exact N_join _ ⟨l41, H, ⟨F43, v42, rfl, (le33.trans le43), hS42.pick [3, 4] (by decide)⟩⟩ ⟨rfl, rfl, rfl, rfl, rfl, trivial⟩
       ·rintro E w22 ⟨l23, H, F22, u24, rfl, le22, hS22⟩;dsimp only [manifest_Join.k5] at H;refine C_region ?_;refine W_add rfl rfl rfl rfl ?_;refine W_move rfl rfl ?_;refine W_nil ?_;exact N_againM (l23, wr (i19 + 1)) _ H ⟨F22, u24, rfl, (le15.trans le22), hS22⟩ ⟨rfl, rfl, rfl, rfl, rfl, trivial⟩
      ·rw [if_f hc21] at H;refine C_exit _ rfl ?_;exact N_join _ ⟨l16, H, ⟨F15, u17, rfl, le15, hS15.pick [1] (by decide)⟩⟩ ⟨rfl, trivial⟩
    ·rintro E w11 ⟨l12, H, F11, u13, rfl, le11, hS11⟩;dsimp only [manifest_Join.k3] at H;refine C_seq ?_;refine C_region ?_;refine W_move rfl rfl ?_;refine W_assign rfl rfl ?_;refine W_assign rfl rfl ?_;refine W_nil ?_;refine N_code ?_;obtain rfl := Option.some.inj H;refine C_ret rfl rfl ?_;exact ⟨F11, u13, rfl, hS11⟩

def cellarerkeep_Files.k1 : Option Bool :=
  some true


def cellarerkeep_Files.l2 (x0 : List File) (x1 : List File) (rec5 : Int → Option Bool) : Int → Option Bool
  | i4 =>
    if decide (i4 < (x0.length : Int)) then
      bd (ix x0 i4) fun x7 =>
      bd (ix x1 i4) fun x9 =>
      bd (only (!(!(x7.path == x9.path))) (ix x0 i4) (File.mk [] [])) fun x11 =>
      bd (only (!(!(x7.path == x9.path))) (ix x1 i4) (File.mk [] [])) fun x13 =>
      bd (only (!(!(x7.path == x9.path))) (cellarerkeep_Bytes x11.data x13.data) false) fun r15 =>
      if ((!(x7.path == x9.path)) || (!r15)) then
        some false
      else
        rec5 (wr (i4 + 1))
    else
      cellarerkeep_Files.k1

def cellarerkeep_Files (x0 : List File) (x1 : List File) : Option Bool :=
  if decide ((x0.length : Int) ≠ (x1.length : Int)) then
    some false
  else
    loop (cellarerkeep_Files.l2 x0 x1) 0

theorem cellarerkeep_Files_ok {F : Frz} {w : World} {x0 : List File} {x1 : List File} {r : Bool} {v0 : Value} {v1 : Value} (hA : Agree F w.heap) (h0 : SlF File.t F v0 x0) (h1 : SlF File.t F v1 x1) (H : cellarerkeep_Files x0 x1 = some r) : Ret Try.prog 23 #[v0, v1] w fun v w' => ∃ (F' : Frz), v = .bool r ∧ St [] w F F' [] w' := by
 refine Ret_of (args := [v0, v1]) Try.func23 rfl rfl ?_;change C _ _ _ _ [(0, v0), (1, v1)] _;have hS := St.entry hA;dsimp only [cellarerkeep_Files] at H;refine C_seq ?_;refine C_region ?_;refine W_assign rfl rfl ?_;refine W_nil ?_;refine N_code ?_;refine C_seq ?_;refine C_seq ?_;refine C_region ?_;refine W_move rfl rfl ?_;refine W_lenv rfl Try.underlying27 rfl h0.ln ?_;refine W_move rfl rfl ?_;refine W_lenv rfl Try.underlying27 rfl h1.ln ?_;refine W_neq rfl rfl rfl ?_;refine W_nil ?_;refine N_code ?_;refine C_cond rfl (fun hc1 => ?_) (fun hc1 => ?_)
 ·rw [if_t hc1] at H;refine C_seq ?_;refine C_region ?_;refine W_assign rfl rfl ?_;refine W_nil ?_;refine N_code ?_;obtain rfl := Option.some.inj H;refine C_ret rfl rfl ?_;exact ⟨F, rfl, hS⟩
 ·rw [if_f hc1] at H;refine C_skip ?_;refine N_code ?_;refine C_seq_join (fun E wq => cellarerkeep_Files.k1 = some r ∧ ∃ (F2 : Frz), E = [] ∧ F.le F2 ∧ St [] w F F2 [] wq) ?_ ?_
  ·refine C_seq ?_;refine C_region ?_;refine W_assign rfl rfl ?_;refine W_nil ?_;refine N_code ?_;refine C_block ?_;refine C_loopM (fun (s : Int) E wq => ∃ (F3 : Frz), E = [(0, v0), (1, v1), (5, .int .i64 s)] ∧ F.le F3 ∧ St [] w F F3 [] wq) H ?_ ?_
   ·exact ⟨_, ⟨F, rfl, (Frz.le.refl _), hS⟩, ⟨rfl, rfl, rfl, trivial⟩⟩
   ·rintro rec5 i4 E w3 hI H;(try dsimp only at hI);obtain ⟨F3, rfl, le3, hS3⟩ := hI;dsimp only [cellarerkeep_Files.l2] at H;refine C_seq ?_;refine C_seq ?_;refine C_region ?_;refine W_move rfl rfl ?_;refine W_move rfl rfl ?_;refine W_lenv rfl Try.underlying27 rfl h0.ln ?_;refine W_lss rfl rfl rfl ?_;refine W_nil ?_;refine N_code ?_;refine C_cond rfl (fun hc6 => ?_) (fun hc6 => ?_)
    ·rw [if_t hc6] at H;refine C_skip ?_;refine N_code ?_;refine C_seq ?_;refine C_block ?_;refine C_seq ?_;obtain ⟨x7, hx7, H⟩ := bd_some H;obtain ⟨x9, hx9, H⟩ := bd_some H;obtain ⟨x11, hx11, H⟩ := bd_some H;obtain ⟨x13, hx13, H⟩ := bd_some H;obtain ⟨r15, hr15, H⟩ := bd_some H;refine C_join (fun E wq => E = [(0, v0), (1, v1), (5, .int .i64 i4), (41, .bool ((!(x7.path == x9.path)) || (!r15)))] ∧ ∃ F16 : Frz, F3.le F16 ∧ St [] w F F16 [] wq) ?_ ?_
     ·
      rcases Bool.eq_false_or_eq_true (!(x7.path == x9.path)) with hb17 | hb17
      ·obtain ⟨hp18, hy18⟩ := ix_some hx7;obtain ⟨cs18, hr18, he18⟩ := (h0.mono le3).at_ hy18;obtain ⟨ue8_0, rfl, hue8_0⟩ := hr18;replace he18 : Elf _ _ 2 _ _ := he18;obtain ⟨hp19, hy19⟩ := ix_some hx9;obtain ⟨cs19, hr19, he19⟩ := (h1.mono le3).at_ hy19;obtain ⟨ue10_0, rfl, hue10_0⟩ := hr19;replace he19 : Elf _ _ 2 _ _ := he19
       apply C_draw 24 [[], [], [0, 1], [2], [3], [], [], [5, 6], [7], [8], [4, 9], [10], [11], [11], [12, 13, 11], [14, 11], [15, 11], [11], [11], [17, 18, 11], [19, 11], [20, 11], [16, 21, 11], [22, 11]] [.val (v0), .val (.int .i64 i4), .val (elp v0 (i4.toNat * 2)), .val (elp v0 ((i4.toNat * 2) + 0)), .val (strV x7.path), .val (v1), .val (.int .i64 i4), .val (elp v1 (i4.toNat * 2)), .val (elp v1 ((i4.toNat * 2) + 0)), .val (strV x9.path), .val (.bool (!(x7.path == x9.path))), .val (.bool true), .val undef, .val undef, .val undef, .val undef, .val undef, .val undef, .val undef, .val undef, .val undef, .val undef, .val undef, .val undef] Ty.mixed rfl rfl (by kernel_rfl) (by kernel_rfl) rfl
       ·refine ⟨?_, ?_, ?_, ?_, ?_, ?_, ?_, ?_, ?_, ?_, ?_, ?_, ?_, ?_, ?_, ?_, ?_, ?_, ?_, ?_, ?_, ?_, ?_, ?_, trivial⟩
        ·intro _ _ _ _;refine W_move rfl rfl ?_;exact Zs rfl rfl
        ·intro _ _ _ _;refine W_move rfl rfl ?_;exact Zs rfl rfl
        ·intro w22 vq22 hB22 hH22;have hS22 := hS3.below hB22;refine W_ix rfl Try.underlying27 Ty.cells34 Ty.info34 rfl rfl (he18.el hS22.agree) hp18 rfl ?_;exact Zs rfl rfl
        ·intro w23 vq23 hB23 hH23;have hS23 := hS3.below hB23;refine W_fld 0 rfl Ty.field34_0 rfl (he18.el hS23.agree) ?_;exact Zs rfl rfl
        ·intro w24 vq24 hB24 hH24;have hS24 := hS3.below hB24;refine W_ld1 0 rfl Ty.cell9 rfl (he18.el hS24.agree) (by omega) rfl ?_;exact Zs rfl rfl
        ·intro _ _ _ _;refine W_move rfl rfl ?_;exact Zs rfl rfl
        ·intro _ _ _ _;refine W_move rfl rfl ?_;exact Zs rfl rfl
        ·intro w27 vq27 hB27 hH27;have hS27 := hS3.below hB27;refine W_ix rfl Try.underlying27 Ty.cells34 Ty.info34 rfl rfl (he19.el hS27.agree) hp19 rfl ?_;exact Zs rfl rfl
        ·intro w28 vq28 hB28 hH28;have hS28 := hS3.below hB28;refine W_fld 0 rfl Ty.field34_0 rfl (he19.el hS28.agree) ?_;exact Zs rfl rfl
        ·intro w29 vq29 hB29 hH29;have hS29 := hS3.below hB29;refine W_ld1 0 rfl Ty.cell9 rfl (he19.el hS29.agree) (by omega) rfl ?_;exact Zs rfl rfl
        ·intro _ _ _ _;refine W_neqS rfl rfl rfl ?_;exact Zs rfl rfl
        ·intro w31 vq31 hB31 hH31;have hS31 := hS3.below hB31;refine W_move rfl rfl ?_;refine W_nil ?_;exact N_step rfl (congrArg Value.bool hb17) (Below.refl _ _)
        ·intro _ _ _ _;refine W_guard_no rfl rfl rfl rfl rfl ?_;exact Zs rfl rfl
        ·intro _ _ _ _;refine W_guard_no rfl rfl rfl rfl rfl ?_;exact Zs rfl rfl
        ·intro _ _ _ _;refine W_guard_no rfl rfl rfl rfl rfl ?_;exact Zs rfl rfl
        ·intro _ _ _ _;refine W_guard_no rfl rfl rfl rfl rfl ?_;exact Zs rfl rfl
        ·intro _ _ _ _;refine W_guard_no rfl rfl rfl rfl rfl ?_;exact Zs rfl rfl
        ·intro _ _ _ _;refine W_guard_no rfl rfl rfl rfl rfl ?_;exact Zs rfl rfl
        ·intro _ _ _ _;refine W_guard_no rfl rfl rfl rfl rfl ?_;exact Zs rfl rfl
        ·intro _ _ _ _;refine W_guard_no rfl rfl rfl rfl rfl ?_;exact Zs rfl rfl
        ·intro _ _ _ _;refine W_guard_no rfl rfl rfl rfl rfl ?_;exact Zs rfl rfl
        ·intro _ _ _ _;refine W_guard_no rfl rfl rfl rfl rfl ?_;exact Zs rfl rfl
        ·intro _ _ _ _;refine W_guard_no rfl rfl rfl rfl rfl ?_;exact Zs rfl rfl
        ·intro _ _ _ _;refine W_guard_no rfl rfl rfl rfl rfl ?_;exact Zs rfl rfl
       intro w44 vq44 hB44 hH44;have hS44 := hS3.below hB44;refine W_pick_t rfl rfl rfl ?_;refine W_nil ?_;exact N_join _ ⟨rfl, F3, (Frz.le.refl _), hS44⟩ ⟨rfl, rfl, rfl, (look_bool rfl (by first | rfl | (rw [hb17]; first | done | rfl) | simp [hb17])), trivial⟩
      ·obtain ⟨hp45, hy45⟩ := ix_some hx7;obtain ⟨cs45, hr45, he45⟩ := (h0.mono le3).at_ hy45;obtain ⟨ue8_0, rfl, hue8_0⟩ := hr45;replace he45 : Elf _ _ 2 _ _ := he45;obtain ⟨hp46, hy46⟩ := ix_some hx9;obtain ⟨cs46, hr46, he46⟩ := (h1.mono le3).at_ hy46;obtain ⟨ue10_0, rfl, hue10_0⟩ := hr46;replace he46 : Elf _ _ 2 _ _ := he46;have hy47 := hx11;rw [only_t (by first | rfl | (rw [hb17]; first | done | rfl) | simp [hb17])] at hy47;obtain ⟨hp48, hy48⟩ := ix_some hy47;obtain ⟨cs48, hr48, he48⟩ := (h0.mono le3).at_ hy48;obtain ⟨ue12_0, rfl, hue12_0⟩ := hr48;replace he48 : Elf _ _ 2 _ _ := he48;have hy49 := hx13;rw [only_t (by first | rfl | (rw [hb17]; first | done | rfl) | simp [hb17])] at hy49;obtain ⟨hp50, hy50⟩ := ix_some hy49;obtain ⟨cs50, hr50, he50⟩ := (h1.mono le3).at_ hy50;obtain ⟨ue14_0, rfl, hue14_0⟩ := hr50;replace he50 : Elf _ _ 2 _ _ := he50
       apply C_draw 24 [[], [], [0, 1], [2], [3], [], [], [5, 6], [7], [8], [4, 9], [10], [11], [11], [12, 13, 11], [14, 11], [15, 11], [11], [11], [17, 18, 11], [19, 11], [20, 11], [16, 21, 11], [22, 11]] [.val (v0), .val (.int .i64 i4), .val (elp v0 (i4.toNat * 2)), .val (elp v0 ((i4.toNat * 2) + 0)), .val (strV x7.path), .val (v1), .val (.int .i64 i4), .val (elp v1 (i4.toNat * 2)), .val (elp v1 ((i4.toNat * 2) + 0)), .val (strV x9.path), .val (.bool (!(x7.path == x9.path))), .val (.bool false), .val (v0), .val (.int .i64 i4), .val (elp v0 (i4.toNat * 2)), .val (elp v0 ((i4.toNat * 2) + 1)), .val (ue12_0), .val (v1), .val (.int .i64 i4), .val (elp v1 (i4.toNat * 2)), .val (elp v1 ((i4.toNat * 2) + 1)), .val (ue14_0), .val (.bool r15), .val (.bool (!r15))] Ty.mixed rfl rfl (by kernel_rfl) (by kernel_rfl) rfl
       ·refine ⟨?_, ?_, ?_, ?_, ?_, ?_, ?_, ?_, ?_, ?_, ?_, ?_, ?_, ?_, ?_, ?_, ?_, ?_, ?_, ?_, ?_, ?_, ?_, ?_, trivial⟩
        ·intro _ _ _ _;refine W_move rfl rfl ?_;exact Zs rfl rfl
        ·intro _ _ _ _;refine W_move rfl rfl ?_;exact Zs rfl rfl
        ·intro w53 vq53 hB53 hH53;have hS53 := hS3.below hB53;refine W_ix rfl Try.underlying27 Ty.cells34 Ty.info34 rfl rfl (he45.el hS53.agree) hp45 rfl ?_;exact Zs rfl rfl
        ·intro w54 vq54 hB54 hH54;have hS54 := hS3.below hB54;refine W_fld 0 rfl Ty.field34_0 rfl (he45.el hS54.agree) ?_;exact Zs rfl rfl
        ·intro w55 vq55 hB55 hH55;have hS55 := hS3.below hB55;refine W_ld1 0 rfl Ty.cell9 rfl (he45.el hS55.agree) (by omega) rfl ?_;exact Zs rfl rfl
        ·intro _ _ _ _;refine W_move rfl rfl ?_;exact Zs rfl rfl
        ·intro _ _ _ _;refine W_move rfl rfl ?_;exact Zs rfl rfl
        ·intro w58 vq58 hB58 hH58;have hS58 := hS3.below hB58;refine W_ix rfl Try.underlying27 Ty.cells34 Ty.info34 rfl rfl (he46.el hS58.agree) hp46 rfl ?_;exact Zs rfl rfl
        ·intro w59 vq59 hB59 hH59;have hS59 := hS3.below hB59;refine W_fld 0 rfl Ty.field34_0 rfl (he46.el hS59.agree) ?_;exact Zs rfl rfl
        ·intro w60 vq60 hB60 hH60;have hS60 := hS3.below hB60;refine W_ld1 0 rfl Ty.cell9 rfl (he46.el hS60.agree) (by omega) rfl ?_;exact Zs rfl rfl
        ·intro _ _ _ _;refine W_neqS rfl rfl rfl ?_;exact Zs rfl rfl
        ·intro w62 vq62 hB62 hH62;have hS62 := hS3.below hB62;refine W_move rfl rfl ?_;refine W_nil ?_;exact N_step rfl (congrArg Value.bool hb17) (Below.refl _ _)
        ·intro _ _ _ _;refine W_guard_yes rfl ?_;refine W_move rfl rfl ?_;exact Zs rfl rfl
        ·intro _ _ _ _;refine W_guard_yes rfl ?_;refine W_move rfl rfl ?_;exact Zs rfl rfl
        ·intro w65 vq65 hB65 hH65;have hS65 := hS3.below hB65;refine W_guard_yes rfl ?_;refine W_ix rfl Try.underlying27 Ty.cells34 Ty.info34 rfl rfl (he48.el hS65.agree) hp48 rfl ?_;exact Zs rfl rfl
        ·intro w66 vq66 hB66 hH66;have hS66 := hS3.below hB66;refine W_guard_yes rfl ?_;refine W_fld 1 rfl Ty.field34_1 rfl (he48.el hS66.agree) ?_;exact Zs rfl rfl
        ·intro w67 vq67 hB67 hH67;have hS67 := hS3.below hB67;refine W_guard_yes rfl ?_;refine W_ld1 1 rfl Ty.cell25 rfl (he48.el hS67.agree) (by omega) rfl ?_;exact Zs rfl rfl
        ·intro _ _ _ _;refine W_guard_yes rfl ?_;refine W_move rfl rfl ?_;exact Zs rfl rfl
        ·intro _ _ _ _;refine W_guard_yes rfl ?_;refine W_move rfl rfl ?_;exact Zs rfl rfl
        ·intro w70 vq70 hB70 hH70;have hS70 := hS3.below hB70;refine W_guard_yes rfl ?_;refine W_ix rfl Try.underlying27 Ty.cells34 Ty.info34 rfl rfl (he50.el hS70.agree) hp50 rfl ?_;exact Zs rfl rfl
        ·intro w71 vq71 hB71 hH71;have hS71 := hS3.below hB71;refine W_guard_yes rfl ?_;refine W_fld 1 rfl Ty.field34_1 rfl (he50.el hS71.agree) ?_;exact Zs rfl rfl
        ·intro w72 vq72 hB72 hH72;have hS72 := hS3.below hB72;refine W_guard_yes rfl ?_;refine W_ld1 1 rfl Ty.cell25 rfl (he50.el hS72.agree) (by omega) rfl ?_;exact Zs rfl rfl
        ·intro w73 vq73 hB73 hH73;have hS73 := hS3.below hB73;refine W_guard_yes rfl ?_;have hy74 := hr15;rw [only_t (by first | rfl | (rw [hb17]; first | done | rfl) | simp [hb17])] at hy74;refine W_call rfl Ty.named28 rfl (cellarerkeep_Bytes_ok hS73.agree hue12_0 hue14_0 hy74) ?_;rintro v75 w75 ⟨Fr15, rfl, hT75⟩;have hS75 := hS73.lent hT75;refine W_nil ?_;exact N_step rfl rfl hT75.below0
        ·intro _ _ _ _;refine W_guard_yes rfl ?_;refine W_not rfl rfl ?_;exact Zs rfl rfl
       intro w77 vq77 hB77 hH77;have hS77 := hS3.below hB77;refine W_pick_f rfl rfl rfl ?_;refine W_nil ?_;exact N_join _ ⟨rfl, F3, (Frz.le.refl _), hS77⟩ ⟨rfl, rfl, rfl, (look_bool rfl (by first | rfl | (rw [hb17]; first | done | rfl) | simp [hb17])), trivial⟩
     rintro E w16 ⟨rfl, F16, le16, hS16⟩;refine N_code ?_;refine C_cond rfl (fun hc78 => ?_) (fun hc78 => ?_)
     ·rw [if_t hc78] at H;refine C_seq ?_;refine C_region ?_;refine W_assign rfl rfl ?_;refine W_nil ?_;refine N_code ?_;obtain rfl := Option.some.inj H;refine C_ret rfl rfl ?_;exact ⟨F16, rfl, hS16⟩
     ·rw [if_f hc78] at H;refine C_skip ?_;refine N_block ?_;refine N_code ?_;refine C_region ?_;refine W_move rfl rfl ?_;refine W_add rfl rfl rfl rfl ?_;refine W_assign rfl rfl ?_;refine W_nil ?_;exact N_againM (wr (i4 + 1)) _ H ⟨F16, rfl, (le3.trans le16), hS16⟩ ⟨rfl, rfl, rfl, trivial⟩
    ·rw [if_f hc6] at H;refine C_exit _ rfl ?_;exact N_join _ ⟨H, ⟨F3, rfl, le3, hS3⟩⟩ trivial
  ·rintro E w2 ⟨H, F2, rfl, le2, hS2⟩;dsimp only [cellarerkeep_Files.k1] at H;refine C_seq ?_;refine C_region ?_;refine W_assign rfl rfl ?_;refine W_nil ?_;refine N_code ?_;obtain rfl := Option.some.inj H;refine C_ret rfl rfl ?_;exact ⟨F2, rfl, hS2⟩

end
end Go.Wk.Lf
