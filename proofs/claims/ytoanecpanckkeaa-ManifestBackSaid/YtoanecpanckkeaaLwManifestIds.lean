import Derived.Test.YtoanecpanckkeaaLfM1
import Derived.Test.YtoanecpanckkeaaLfM3
import Derived.Test.YtoanecpanckkeaaLfM7
namespace Go.Wk.Lf
open Go.Proofs Go.RowKit
set_option linter.unusedVariables false
set_option linter.unusedSimpArgs false
noncomputable section

def cellarerlaw17_ManifestIds.k2 : Option Bool :=
  bd (cellarerlaw17_wakes) fun r39 =>
  some r39


def cellarerlaw17_ManifestIds.l3 (r7 : Manifest × (List (List UInt8)) × Int) (r35 : (List (List UInt8))) (rec43 : Int → Option Bool) : Int → Option Bool
  | i42 =>
    if decide (i42 < (r7.2.1.length : Int)) then
      bd (ix r7.2.1 i42) fun x45 =>
      bd (shaSum [x45]) fun r48 =>
      bd (ix r35 i42) fun x49 =>
      bd (only ((!(!decide (r48 = x49))) && decide (0 < i42)) (ix r35 (wr (i42 - 1))) (List.replicate 32 0)) fun x51 =>
      bd (only ((!(!decide (r48 = x49))) && decide (0 < i42)) (ix r35 i42) (List.replicate 32 0)) fun x54 =>
      if ((!decide (r48 = x49)) || (decide (0 < i42) && (!sLt x51 x54))) then
        some false
      else
        rec43 (wr (i42 + 1))
    else
      cellarerlaw17_ManifestIds.k2


def cellarerlaw17_ManifestIds.k1 (r7 : Manifest × (List (List UInt8)) × Int) : Option Bool :=
  bd (manifest_Ids r7.1) fun r35 =>
  if decide ((r35.length : Int) ≠ (r7.2.1.length : Int)) then
    some false
  else
    loop (cellarerlaw17_ManifestIds.l3 r7 r35) 0


def cellarerlaw17_ManifestIds.k5 (i162 : Int) (rec163 : Int → Option Bool) : Option Bool :=
  rec163 (wr (i162 + 1))


def cellarerlaw17_ManifestIds.l6 (i162 : Int) (rec163 : Int → Option Bool) (r168 : (List (List UInt8)) × Int) (x171 : Part) (rec321 : Int → Option Bool) : Int → Option Bool
  | i320 =>
    if decide (i320 < (r168.1.length : Int)) then
      bd (ix x171.ids i320) fun x323 =>
      bd (ix r168.1 i320) fun x325 =>
      bd (shaSum [x325]) fun r328 =>
      if (!decide (x323 = r328)) then
        some false
      else
        rec321 (wr (i320 + 1))
    else
      cellarerlaw17_ManifestIds.k5 i162 rec163


def cellarerlaw17_ManifestIds.l4 (x1 : List File) (r7 : Manifest × (List (List UInt8)) × Int) (rec163 : Int → Option Bool) : Int → Option Bool
  | i162 =>
    if decide (i162 < (x1.length : Int)) then
      bd (ix x1 i162) fun x166 =>
      bd (cdc_Cut x166.data) fun r168 =>
      bd (ix r7.1.parts i162) fun x171 =>
      bd (only (!decide (r168.2 ≠ 0)) (ix x1 i162) (File.mk [] [])) fun x176 =>
      bd (only (!(decide (r168.2 ≠ 0) || (!(x171.path == x176.path)))) (ix x1 i162) (File.mk [] [])) fun x178 =>
      if (((decide (r168.2 ≠ 0) || (!(x171.path == x176.path))) || decide (x171.size ≠ (x178.data.length : Int))) || decide ((x171.ids.length : Int) ≠ (r168.1.length : Int))) then
        some false
      else
        loop (cellarerlaw17_ManifestIds.l6 i162 rec163 r168 x171) 0
    else
      cellarerlaw17_ManifestIds.k1 r7

def cellarerlaw17_ManifestIds (x0 : List UInt8) (x1 : List File) : Option Bool :=
  bd (cellarerlaw05_Heavy x1) fun r1 =>
  if (r1 || decide (100 < (x0.length : Int))) then
    some true
  else
    bd (manifest_Build x0 x1) fun r7 =>
    bd (tree_Name x0) fun r11 =>
    if (!r11) then
      bd (only (decide (r7.2.2 = 1) && decide ((r7.2.1.length : Int) = 0)) (cellarerlaw17_wakes) false) fun r14 =>
      some ((decide (r7.2.2 = 1) && decide ((r7.2.1.length : Int) = 0)) && r14)
    else
      if decide (r7.2.2 ≠ 0) then
        bd (tree_Check x1) fun r21 =>
        bd (only (decide (r7.2.2 = r21) && decide ((r7.2.1.length : Int) = 0)) (cellarerlaw17_wakes) false) fun r22 =>
        some ((decide (r7.2.2 = r21) && decide ((r7.2.1.length : Int) = 0)) && r22)
      else
        if ((!(r7.1.name == x0)) || decide ((r7.1.parts.length : Int) ≠ (x1.length : Int))) then
          some false
        else
          loop (cellarerlaw17_ManifestIds.l4 x1 r7) 0

set_option maxHeartbeats 2000000 in
theorem cellarerlaw17_ManifestIds_ok {F : Frz} {w : World} {x0 : List UInt8} {x1 : List File} {r : Bool} {v1 : Value} (hA : Agree F w.heap) (h1 : SlF File.t F v1 x1) (H : cellarerlaw17_ManifestIds x0 x1 = some r) : Ret Try.prog 9 #[strV x0, v1] w fun v w' => ∃ (F' : Frz), v = .bool r ∧ St [] w F F' [] w' := by
 refine Ret_of (args := [strV x0, v1]) Try.func9 rfl rfl ?_;change C _ _ _ _ [(0, strV x0), (1, v1)] _;have hS := St.entry hA;dsimp only [cellarerlaw17_ManifestIds] at H;refine C_seq ?_;refine C_region ?_;refine W_assign rfl rfl ?_;refine W_nil ?_;refine N_code ?_;refine C_seq ?_;refine C_seq ?_;obtain ⟨r1, hr1, H⟩ := bd_some H;refine C_join (fun E wq => E = [(0, strV x0), (1, v1), (21, .bool (r1 || decide (100 < (x0.length : Int))))] ∧ ∃ F2 : Frz, F.le F2 ∧ St [] w F F2 [] wq) ?_ ?_
 ·
  rcases Bool.eq_false_or_eq_true r1 with hb3 | hb3
  ·refine C_region ?_;refine W_move rfl rfl ?_;refine W_call rfl Ty.named17 rfl (cellarerlaw05_Heavy_ok hS.agree h1 hr1) ?_;rintro v4 w4 ⟨Fr1, rfl, hT4⟩;have hS4 := hS.lent hT4;refine W_move rfl rfl ?_;refine W_known (t := 17) true rfl hb3 ?_;refine W_guard_no rfl rfl rfl rfl rfl ?_;refine W_guard_no rfl rfl rfl rfl rfl ?_;refine W_guard_no rfl rfl rfl rfl rfl ?_;refine W_pick_t rfl rfl rfl ?_;refine W_nil ?_;exact N_join _ ⟨rfl, F, (Frz.le.refl _), hS4⟩ ⟨rfl, rfl, (look_bool rfl (by first | rfl | (rw [hb3]; first | done | rfl) | simp [hb3])), trivial⟩
  ·refine C_region ?_;refine W_move rfl rfl ?_;refine W_call rfl Ty.named17 rfl (cellarerlaw05_Heavy_ok hS.agree h1 hr1) ?_;rintro v5 w5 ⟨Fr1, rfl, hT5⟩;have hS5 := hS.lent hT5;refine W_move rfl rfl ?_;refine W_known (t := 17) false rfl hb3 ?_;refine W_guard_yes rfl ?_;refine W_move rfl rfl ?_;refine W_guard_yes rfl ?_;refine W_lenS rfl Try.underlying9 rfl ?_;refine W_guard_yes rfl ?_;refine W_gtr rfl rfl rfl ?_;refine W_pick_f rfl rfl rfl ?_;refine W_nil ?_;exact N_join _ ⟨rfl, F, (Frz.le.refl _), hS5⟩ ⟨rfl, rfl, (look_bool rfl (by first | rfl | (rw [hb3]; first | done | rfl) | simp [hb3])), trivial⟩
 rintro E w2 ⟨rfl, F2, le2, hS2⟩;refine N_code ?_;refine C_cond rfl (fun hc6 => ?_) (fun hc6 => ?_)
 ·rw [if_t hc6] at H;refine C_seq ?_;refine C_region ?_;refine W_assign rfl rfl ?_;refine W_nil ?_;refine N_code ?_;obtain rfl := Option.some.inj H;refine C_ret rfl rfl ?_;exact ⟨F2, rfl, hS2⟩
 ·rw [if_f hc6] at H;refine C_skip ?_;refine N_code ?_;refine C_seq ?_;obtain ⟨r7, hr7, H⟩ := bd_some H;refine C_region ?_;refine W_move rfl rfl ?_;refine W_move rfl rfl ?_;refine W_call rfl Ty.named32 rfl (manifest_Build_ok hS2.agree (h1.mono le2) hr7) ?_;rintro v9 w9 ⟨Fr7, ur7_0_0, ur7_1, rfl, hfr7_0_0, hT9⟩;have hS9 := hS2.call hT9;have ler7 := hT9.ext;refine W_move rfl rfl ?_;refine W_extract rfl rfl rfl ?_;refine W_extract rfl rfl rfl ?_;refine W_extract rfl rfl rfl ?_;refine W_alc (cs := [strV [], .slice none 0 0]) rfl Ty.zero45 rfl hS9 ?_;intro g8 w8 hS8;refine W_bst (c := [strV r7.1.name, ur7_0_0]) 0 ([strV r7.1.name, ur7_0_0]) rfl rfl hS8 rfl rfl Ty.size45 (fun y hy => Manifest.t.one (F := Fr7) (x := r7.1) ⟨ur7_0_0, rfl, hfr7_0_0⟩ y hy) (Nat.le_of_ble_eq_true rfl) rfl ?_;intro w10 hS10;refine W_assign rfl rfl ?_;refine W_assign rfl rfl ?_;refine W_nil ?_;refine N_code ?_;refine C_seq ?_;refine C_seq ?_;obtain ⟨r11, hr11, H⟩ := bd_some H;refine C_region ?_;refine W_move rfl rfl ?_;refine W_call rfl Ty.named15 rfl (tree_Name_ok hS10.agree hr11) ?_;rintro v12 w12 ⟨Fr11, rfl, hT12⟩;have hS12 := hS10.lent hT12;refine W_not rfl rfl ?_;refine W_nil ?_;refine N_code ?_;refine C_cond rfl (fun hc13 => ?_) (fun hc13 => ?_)
  ·rw [if_t hc13] at H;refine C_seq ?_;obtain ⟨r14, hr14, H⟩ := bd_some H;refine C_join (fun E wq => E = [(4, .bool ((decide (r7.2.2 = 1) && decide ((r7.2.1.length : Int) = 0)) && r14))] ∧ ∃ F15 : Frz, Fr7.le F15 ∧ St [] w F F15 [.box g8 45 [strV r7.1.name, ur7_0_0], .row (tSl tB) 25 ur7_1 r7.2.1] wq) ?_ ?_
   ·
    rcases Bool.eq_false_or_eq_true (decide (r7.2.2 = 1)) with hb16 | hb16
    ·
     rcases Bool.eq_false_or_eq_true (decide ((r7.2.1.length : Int) = 0)) with hb17 | hb17
     ·refine C_region ?_;refine W_move rfl rfl ?_;refine W_eql rfl rfl rfl ?_;refine W_move rfl rfl ?_;refine W_known (t := 34) true rfl hb16 ?_;refine W_guard_yes rfl ?_;refine W_move rfl rfl ?_;refine W_guard_yes rfl ?_;refine W_lenv rfl Try.underlying52 rfl (hS12.rowLn (k := 1) rfl) ?_;refine W_guard_yes rfl ?_;refine W_eql rfl rfl rfl ?_;refine W_pick_t rfl rfl rfl ?_;refine W_move rfl rfl ?_;refine W_known (t := 39) true rfl hb17 ?_;refine W_guard_yes rfl ?_;have hy18 := hr14;rw [only_t (by first | rfl | (rw [hb17, hb16]; first | done | rfl) | simp [hb16, hb17])] at hy18;refine W_call rfl Ty.named31 rfl (cellarerlaw17_wakes_ok hS12.agree hy18) ?_;rintro v19 w19 ⟨Fr14, rfl, hT19⟩;have hS19 := hS12.lent hT19;refine W_pick_t rfl rfl rfl ?_;refine W_assign rfl rfl ?_;refine W_nil ?_;exact N_join _ ⟨rfl, Fr7, (Frz.le.refl _), hS19⟩ ⟨(look_bool rfl (by first | rfl | (rw [hb17, hb16]; first | done | rfl) | simp [hb16, hb17])), trivial⟩
     ·refine C_region ?_;refine W_move rfl rfl ?_;refine W_eql rfl rfl rfl ?_;refine W_move rfl rfl ?_;refine W_known (t := 34) true rfl hb16 ?_;refine W_guard_yes rfl ?_;refine W_move rfl rfl ?_;refine W_guard_yes rfl ?_;refine W_lenv rfl Try.underlying52 rfl (hS12.rowLn (k := 1) rfl) ?_;refine W_guard_yes rfl ?_;refine W_eql rfl rfl rfl ?_;refine W_pick_t rfl rfl rfl ?_;refine W_move rfl rfl ?_;refine W_known (t := 39) false rfl hb17 ?_;refine W_guard_no rfl rfl rfl rfl rfl ?_;refine W_pick_f rfl rfl rfl ?_;refine W_assign rfl rfl ?_;refine W_nil ?_;exact N_join _ ⟨rfl, Fr7, (Frz.le.refl _), hS12⟩ ⟨(look_bool rfl (by first | rfl | (rw [hb17, hb16]; first | done | rfl) | simp [hb16, hb17])), trivial⟩
    ·refine C_region ?_;refine W_move rfl rfl ?_;refine W_eql rfl rfl rfl ?_;refine W_move rfl rfl ?_;refine W_known (t := 34) false rfl hb16 ?_;refine W_guard_no rfl rfl rfl rfl rfl ?_;refine W_guard_no rfl rfl rfl rfl rfl ?_;refine W_guard_no rfl rfl rfl rfl rfl ?_;refine W_pick_f rfl rfl rfl ?_;refine W_move rfl rfl ?_;refine W_guard_no rfl rfl rfl rfl rfl ?_;refine W_pick_f rfl rfl rfl ?_;refine W_assign rfl rfl ?_;refine W_nil ?_;exact N_join _ ⟨rfl, Fr7, (Frz.le.refl _), hS12⟩ ⟨(look_bool rfl (by first | rfl | (rw [hb16]; first | done | rfl) | simp [hb16])), trivial⟩
   rintro E w15 ⟨rfl, F15, le15, hS15⟩;refine N_code ?_;obtain rfl := Option.some.inj H;refine C_ret rfl rfl ?_;exact ⟨F15, rfl, hS15.pick [] (by decide)⟩
  ·rw [if_f hc13] at H;refine C_skip ?_;refine N_code ?_;refine C_seq ?_;refine C_seq ?_;refine C_region ?_;refine W_move rfl rfl ?_;refine W_neq rfl rfl rfl ?_;refine W_nil ?_;refine N_code ?_;refine C_cond rfl (fun hc20 => ?_) (fun hc20 => ?_)
   ·rw [if_t hc20] at H;refine C_seq ?_;obtain ⟨r21, hr21, H⟩ := bd_some H;obtain ⟨r22, hr22, H⟩ := bd_some H;refine C_join (fun E wq => E = [(4, .bool ((decide (r7.2.2 = r21) && decide ((r7.2.1.length : Int) = 0)) && r22))] ∧ ∃ F23 : Frz, Fr7.le F23 ∧ St [] w F F23 [.box g8 45 [strV r7.1.name, ur7_0_0], .row (tSl tB) 25 ur7_1 r7.2.1] wq) ?_ ?_
    ·
     rcases Bool.eq_false_or_eq_true (decide (r7.2.2 = r21)) with hb24 | hb24
     ·
      rcases Bool.eq_false_or_eq_true (decide ((r7.2.1.length : Int) = 0)) with hb25 | hb25
      ·refine C_region ?_;refine W_move rfl rfl ?_;refine W_move rfl rfl ?_;refine W_call rfl Ty.named21 rfl (tree_Check_ok hS12.agree (h1.mono (le2.trans ler7)) hr21) ?_;rintro v26 w26 ⟨Fr21, rfl, hT26⟩;have hS26 := hS12.lent hT26;refine W_eql rfl rfl rfl ?_;refine W_move rfl rfl ?_;refine W_known (t := 48) true rfl hb24 ?_;refine W_guard_yes rfl ?_;refine W_move rfl rfl ?_;refine W_guard_yes rfl ?_;refine W_lenv rfl Try.underlying52 rfl (hS26.rowLn (k := 1) rfl) ?_;refine W_guard_yes rfl ?_;refine W_eql rfl rfl rfl ?_;refine W_pick_t rfl rfl rfl ?_;refine W_move rfl rfl ?_;refine W_known (t := 53) true rfl hb25 ?_;refine W_guard_yes rfl ?_;have hy27 := hr22;rw [only_t (by first | rfl | (rw [hb25, hb24]; first | done | rfl) | simp [hb24, hb25])] at hy27;refine W_call rfl Ty.named31 rfl (cellarerlaw17_wakes_ok hS26.agree hy27) ?_;rintro v28 w28 ⟨Fr22, rfl, hT28⟩;have hS28 := hS26.lent hT28;refine W_pick_t rfl rfl rfl ?_;refine W_assign rfl rfl ?_;refine W_nil ?_;exact N_join _ ⟨rfl, Fr7, (Frz.le.refl _), hS28⟩ ⟨(look_bool rfl (by first | rfl | (rw [hb25, hb24]; first | done | rfl) | simp [hb24, hb25])), trivial⟩
      ·refine C_region ?_;refine W_move rfl rfl ?_;refine W_move rfl rfl ?_;refine W_call rfl Ty.named21 rfl (tree_Check_ok hS12.agree (h1.mono (le2.trans ler7)) hr21) ?_;rintro v29 w29 ⟨Fr21, rfl, hT29⟩;have hS29 := hS12.lent hT29;refine W_eql rfl rfl rfl ?_;refine W_move rfl rfl ?_;refine W_known (t := 48) true rfl hb24 ?_;refine W_guard_yes rfl ?_;refine W_move rfl rfl ?_;refine W_guard_yes rfl ?_;refine W_lenv rfl Try.underlying52 rfl (hS29.rowLn (k := 1) rfl) ?_;refine W_guard_yes rfl ?_;refine W_eql rfl rfl rfl ?_;refine W_pick_t rfl rfl rfl ?_;refine W_move rfl rfl ?_;refine W_known (t := 53) false rfl hb25 ?_;refine W_guard_no rfl rfl rfl rfl rfl ?_;refine W_pick_f rfl rfl rfl ?_;refine W_assign rfl rfl ?_;refine W_nil ?_;exact N_join _ ⟨rfl, Fr7, (Frz.le.refl _), hS29⟩ ⟨(look_bool rfl (by first | rfl | (rw [hb25, hb24]; first | done | rfl) | simp [hb24, hb25])), trivial⟩
     ·refine C_region ?_;refine W_move rfl rfl ?_;refine W_move rfl rfl ?_;refine W_call rfl Ty.named21 rfl (tree_Check_ok hS12.agree (h1.mono (le2.trans ler7)) hr21) ?_;rintro v30 w30 ⟨Fr21, rfl, hT30⟩;have hS30 := hS12.lent hT30;refine W_eql rfl rfl rfl ?_;refine W_move rfl rfl ?_;refine W_known (t := 48) false rfl hb24 ?_;refine W_guard_no rfl rfl rfl rfl rfl ?_;refine W_guard_no rfl rfl rfl rfl rfl ?_;refine W_guard_no rfl rfl rfl rfl rfl ?_;refine W_pick_f rfl rfl rfl ?_;refine W_move rfl rfl ?_;refine W_guard_no rfl rfl rfl rfl rfl ?_;refine W_pick_f rfl rfl rfl ?_;refine W_assign rfl rfl ?_;refine W_nil ?_;exact N_join _ ⟨rfl, Fr7, (Frz.le.refl _), hS30⟩ ⟨(look_bool rfl (by first | rfl | (rw [hb24]; first | done | rfl) | simp [hb24])), trivial⟩
    rintro E w23 ⟨rfl, F23, le23, hS23⟩;refine N_code ?_;obtain rfl := Option.some.inj H;refine C_ret rfl rfl ?_;exact ⟨F23, rfl, hS23.pick [] (by decide)⟩
   ·rw [if_f hc20] at H;refine C_skip ?_;refine N_code ?_;refine C_seq ?_;refine C_seq ?_;refine C_join (fun E wq => E = [(1, v1), (5, pl g8 0), (6, ur7_1), (67, .bool ((!(r7.1.name == x0)) || decide ((r7.1.parts.length : Int) ≠ (x1.length : Int))))] ∧ ∃ F31 : Frz, Fr7.le F31 ∧ St [] w F F31 [.box g8 45 [strV r7.1.name, ur7_0_0], .row (tSl tB) 25 ur7_1 r7.2.1] wq) ?_ ?_
    ·
     rcases Bool.eq_false_or_eq_true (!(r7.1.name == x0)) with hb32 | hb32
     ·refine C_region ?_;refine W_field_pl 0 rfl Ty.field45_0 rfl ?_;refine W_bld1 0 rfl Ty.cell9 rfl hS12 rfl rfl ?_;refine W_move rfl rfl ?_;refine W_neqS rfl rfl rfl ?_;refine W_move rfl rfl ?_;refine W_known (t := 60) true rfl hb32 ?_;refine W_guard_no rfl rfl rfl rfl rfl ?_;refine W_guard_no rfl rfl rfl rfl rfl ?_;refine W_guard_no rfl rfl rfl rfl rfl ?_;refine W_guard_no rfl rfl rfl rfl rfl ?_;refine W_guard_no rfl rfl rfl rfl rfl ?_;refine W_guard_no rfl rfl rfl rfl rfl ?_;refine W_pick_t rfl rfl rfl ?_;refine W_nil ?_;exact N_join _ ⟨rfl, Fr7, (Frz.le.refl _), hS12⟩ ⟨rfl, rfl, rfl, (look_bool rfl (by first | rfl | (rw [hb32]; first | done | rfl) | simp [hb32])), trivial⟩
     ·refine C_region ?_;refine W_field_pl 0 rfl Ty.field45_0 rfl ?_;refine W_bld1 0 rfl Ty.cell9 rfl hS12 rfl rfl ?_;refine W_move rfl rfl ?_;refine W_neqS rfl rfl rfl ?_;refine W_move rfl rfl ?_;refine W_known (t := 60) false rfl hb32 ?_;refine W_guard_yes rfl ?_;refine W_field_pl 1 rfl Ty.field45_1 rfl ?_;refine W_guard_yes rfl ?_;refine W_bld1 0 rfl Ty.cell43 rfl hS12 rfl rfl ?_;refine W_guard_yes rfl ?_;refine W_lenv rfl Try.underlying43 rfl hfr7_0_0.ln ?_;refine W_guard_yes rfl ?_;refine W_move rfl rfl ?_;refine W_guard_yes rfl ?_;refine W_lenv rfl Try.underlying27 rfl h1.ln ?_;refine W_guard_yes rfl ?_;refine W_neq rfl rfl rfl ?_;refine W_pick_f rfl rfl rfl ?_;refine W_nil ?_;exact N_join _ ⟨rfl, Fr7, (Frz.le.refl _), hS12⟩ ⟨rfl, rfl, rfl, (look_bool rfl (by first | rfl | (rw [hb32]; first | done | rfl) | simp [hb32])), trivial⟩
    rintro E w31 ⟨rfl, F31, le31, hS31⟩;refine N_code ?_;refine C_cond rfl (fun hc33 => ?_) (fun hc33 => ?_)
    ·rw [if_t hc33] at H;refine C_seq ?_;refine C_region ?_;refine W_assign rfl rfl ?_;refine W_nil ?_;refine N_code ?_;obtain rfl := Option.some.inj H;refine C_ret rfl rfl ?_;exact ⟨F31, rfl, hS31.pick [] (by decide)⟩
    ·rw [if_f hc33] at H;refine C_skip ?_;refine N_code ?_;refine C_seq_join (fun E wq => cellarerlaw17_ManifestIds.k1 r7 = some r ∧ ∃ (F34 : Frz), E = [(5, pl g8 0), (6, ur7_1)] ∧ F31.le F34 ∧ St [] w F F34 [.box g8 45 [strV r7.1.name, ur7_0_0], .row (tSl tB) 25 ur7_1 r7.2.1] wq) ?_ ?_
     ·refine C_seq ?_;refine C_region ?_;refine W_assign rfl rfl ?_;refine W_nil ?_;refine N_code ?_;refine C_block ?_;refine C_loopM (fun (s : Int) E wq => ∃ (F161 : Frz), E = [(1, v1), (5, pl g8 0), (6, ur7_1), (8, .int .i64 s)] ∧ F31.le F161 ∧ St [] w F F161 [.box g8 45 [strV r7.1.name, ur7_0_0], .row (tSl tB) 25 ur7_1 r7.2.1] wq) H ?_ ?_
      ·exact ⟨_, ⟨F31, rfl, (Frz.le.refl _), hS31⟩, ⟨rfl, rfl, rfl, rfl, trivial⟩⟩
      ·rintro rec163 i162 E w161 hI H;(try dsimp only at hI);obtain ⟨F161, rfl, le161, hS161⟩ := hI;dsimp only [cellarerlaw17_ManifestIds.l4] at H;refine C_seq ?_;refine C_seq ?_;refine C_region ?_;refine W_move rfl rfl ?_;refine W_move rfl rfl ?_;refine W_lenv rfl Try.underlying27 rfl h1.ln ?_;refine W_lss rfl rfl rfl ?_;refine W_nil ?_;refine N_code ?_;refine C_cond rfl (fun hc164 => ?_) (fun hc164 => ?_)
       ·rw [if_t hc164] at H;refine C_skip ?_;refine N_code ?_;refine C_seq_join (fun E wq => cellarerlaw17_ManifestIds.k5 i162 rec163 = some r ∧ ∃ (F165 : Frz), E = [(1, v1), (5, pl g8 0), (6, ur7_1), (8, .int .i64 i162)] ∧ F161.le F165 ∧ St [] w F F165 [.box g8 45 [strV r7.1.name, ur7_0_0], .row (tSl tB) 25 ur7_1 r7.2.1] wq) ?_ ?_
        ·refine C_block ?_;refine C_seq ?_;obtain ⟨x166, hx166, H⟩ := bd_some H;obtain ⟨r168, hr168, H⟩ := bd_some H;refine C_region ?_;refine W_move rfl rfl ?_;refine W_move rfl rfl ?_;obtain ⟨hp169, hy169⟩ := ix_some hx166;obtain ⟨cs169, hr169, he169⟩ := (h1.mono (((le2.trans ler7).trans le31).trans le161)).at_ hy169;obtain ⟨ue167_0, rfl, hue167_0⟩ := hr169;replace he169 : Elf _ _ 2 _ _ := he169;refine W_ix rfl Try.underlying27 Ty.cells34 Ty.info34 rfl rfl (he169.el hS161.agree) hp169 rfl ?_;refine W_fld 1 rfl Ty.field34_1 rfl (he169.el hS161.agree) ?_;refine W_ld1 1 rfl Ty.cell25 rfl (he169.el hS161.agree) (by omega) rfl ?_;refine W_call rfl Ty.named33 rfl (cdc_Cut_ok hS161.agree hue167_0 hr168) ?_;rintro v170 w170 ⟨Fr168, ur168_0, rfl, hT170⟩;have hS170 := hS161.call hT170;have ler168 := hT170.ext;refine W_move rfl rfl ?_;refine W_extract rfl rfl rfl ?_;refine W_extract rfl rfl rfl ?_;refine W_assign rfl rfl ?_;refine W_assign rfl rfl ?_;refine W_nil ?_;refine N_code ?_;refine C_seq ?_;obtain ⟨x171, hx171, H⟩ := bd_some H;refine C_region ?_;refine W_field_pl 1 rfl Ty.field45_1 rfl ?_;refine W_bld1 1 rfl Ty.cell43 rfl hS170 rfl rfl ?_;refine W_move rfl rfl ?_;obtain ⟨hp174, hy174⟩ := ix_some hx171;obtain ⟨cs174, hr174, he174⟩ := (hfr7_0_0.mono ((le31.trans le161).trans ler168)).at_ hy174;obtain ⟨ue172_0, rfl, hue172_0⟩ := hr174;replace he174 : Elf _ _ 3 _ _ := he174;refine W_ix rfl Try.underlying43 Ty.cells51 Ty.info51 rfl rfl (he174.el hS170.agree) hp174 rfl ?_;refine W_ldg 0 ((Part.cells x171 ue172_0)) rfl Ty.agg51 Ty.size51 rfl (he174.el hS170.agree) (by omega) (fun q u h => sub_at (post := []) rfl h) ?_;refine W_alc (cs := [strV [], .int .i64 0, .slice none 0 0]) rfl Ty.zero51 rfl hS170 ?_;intro g173 w173 hS173;refine W_bst (c := [strV x171.path, .int .i64 x171.size, ue172_0]) 0 ([strV x171.path, .int .i64 x171.size, ue172_0]) rfl rfl hS173 rfl rfl Ty.size51 (fun y hy => Part.t.one (F := Fr168) (x := x171) ⟨ue172_0, rfl, hue172_0⟩ y hy) (Nat.le_of_ble_eq_true rfl) rfl ?_;intro w175 hS175;refine W_nil ?_;refine N_code ?_;refine C_seq ?_;refine C_seq ?_;obtain ⟨x176, hx176, H⟩ := bd_some H;obtain ⟨x178, hx178, H⟩ := bd_some H;refine C_join (fun E wq => E = [(1, v1), (5, pl g8 0), (6, ur7_1), (8, .int .i64 i162), (9, ur168_0), (11, pl g173 0), (118, .bool (((decide (r168.2 ≠ 0) || (!(x171.path == x176.path))) || decide (x171.size ≠ (x178.data.length : Int))) || decide ((x171.ids.length : Int) ≠ (r168.1.length : Int))))] ∧ ∃ F180 : Frz, Fr168.le F180 ∧ St [] w F F180 [.box g173 51 [strV x171.path, .int .i64 x171.size, ue172_0], .row (tSl tB) 25 ur168_0 r168.1, .box g8 45 [strV r7.1.name, ur7_0_0], .row (tSl tB) 25 ur7_1 r7.2.1] wq) ?_ ?_
         ·
          rcases Bool.eq_false_or_eq_true (decide (r168.2 ≠ 0)) with hb181 | hb181
          ·
           apply C_draw 30 [[], [0], [1], [2], [3, 2], [2], [2], [5, 6, 2], [7, 2], [8, 2], [4, 9, 2], [2, 10], [11], [12], [13, 12], [12], [12], [15, 16, 12], [17, 12], [18, 12], [19, 12], [14, 20, 12], [12, 21], [22], [23], [24, 23], [25, 23], [23], [27, 23], [26, 28, 23]] [.val (.int .i64 r168.2), .val (.bool (decide (r168.2 ≠ 0))), .val (.bool true), .val undef, .val undef, .val undef, .val undef, .val undef, .val undef, .val undef, .val undef, .val (.bool true), .val (.bool true), .val undef, .val undef, .val undef, .val undef, .val undef, .val undef, .val undef, .val undef, .val undef, .val (.bool true), .val (.bool true), .val undef, .val undef, .val undef, .val undef, .val undef, .val undef] Ty.mixed rfl rfl (by kernel_rfl) (by kernel_rfl) rfl
           ·refine ⟨?_, ?_, ?_, ?_, ?_, ?_, ?_, ?_, ?_, ?_, ?_, ?_, ?_, ?_, ?_, ?_, ?_, ?_, ?_, ?_, ?_, ?_, ?_, ?_, ?_, ?_, ?_, ?_, ?_, ?_, trivial⟩
            ·intro _ _ _ _;refine W_move rfl rfl ?_;exact Zs rfl rfl
            ·intro _ _ _ _;refine W_neq rfl rfl rfl ?_;exact Zs rfl rfl
            ·intro w184 vq184 hB184 hH184;have hS184 := hS175.below hB184;refine W_move rfl rfl ?_;refine W_nil ?_;exact N_step rfl (congrArg Value.bool hb181) (Below.refl _ _)
            ·intro _ _ _ _;refine W_guard_no rfl rfl rfl rfl rfl ?_;exact Zs rfl rfl
            ·intro _ _ _ _;refine W_guard_no rfl rfl rfl rfl rfl ?_;exact Zs rfl rfl
            ·intro _ _ _ _;refine W_guard_no rfl rfl rfl rfl rfl ?_;exact Zs rfl rfl
            ·intro _ _ _ _;refine W_guard_no rfl rfl rfl rfl rfl ?_;exact Zs rfl rfl
            ·intro _ _ _ _;refine W_guard_no rfl rfl rfl rfl rfl ?_;exact Zs rfl rfl
            ·intro _ _ _ _;refine W_guard_no rfl rfl rfl rfl rfl ?_;exact Zs rfl rfl
            ·intro _ _ _ _;refine W_guard_no rfl rfl rfl rfl rfl ?_;exact Zs rfl rfl
            ·intro _ _ _ _;refine W_guard_no rfl rfl rfl rfl rfl ?_;exact Zs rfl rfl
            ·intro _ _ _ _;refine W_pick_t rfl rfl rfl ?_;exact Zs rfl rfl
            ·intro _ _ _ _;refine W_move rfl rfl ?_;exact Zs rfl rfl
            ·intro _ _ _ _;refine W_guard_no rfl rfl rfl rfl rfl ?_;exact Zs rfl rfl
            ·intro _ _ _ _;refine W_guard_no rfl rfl rfl rfl rfl ?_;exact Zs rfl rfl
            ·intro _ _ _ _;refine W_guard_no rfl rfl rfl rfl rfl ?_;exact Zs rfl rfl
            ·intro _ _ _ _;refine W_guard_no rfl rfl rfl rfl rfl ?_;exact Zs rfl rfl
            ·intro _ _ _ _;refine W_guard_no rfl rfl rfl rfl rfl ?_;exact Zs rfl rfl
            ·intro _ _ _ _;refine W_guard_no rfl rfl rfl rfl rfl ?_;exact Zs rfl rfl
            ·intro _ _ _ _;refine W_guard_no rfl rfl rfl rfl rfl ?_;exact Zs rfl rfl
            ·intro _ _ _ _;refine W_guard_no rfl rfl rfl rfl rfl ?_;exact Zs rfl rfl
            ·intro _ _ _ _;refine W_guard_no rfl rfl rfl rfl rfl ?_;exact Zs rfl rfl
            ·intro _ _ _ _;refine W_pick_t rfl rfl rfl ?_;exact Zs rfl rfl
            ·intro _ _ _ _;refine W_move rfl rfl ?_;exact Zs rfl rfl
            ·intro _ _ _ _;refine W_guard_no rfl rfl rfl rfl rfl ?_;exact Zs rfl rfl
            ·intro _ _ _ _;refine W_guard_no rfl rfl rfl rfl rfl ?_;exact Zs rfl rfl
            ·intro _ _ _ _;refine W_guard_no rfl rfl rfl rfl rfl ?_;exact Zs rfl rfl
            ·intro _ _ _ _;refine W_guard_no rfl rfl rfl rfl rfl ?_;exact Zs rfl rfl
            ·intro _ _ _ _;refine W_guard_no rfl rfl rfl rfl rfl ?_;exact Zs rfl rfl
            ·intro _ _ _ _;refine W_guard_no rfl rfl rfl rfl rfl ?_;exact Zs rfl rfl
           intro w212 vq212 hB212 hH212;have hS212 := hS175.below hB212;refine W_pick_t rfl rfl rfl ?_;refine W_nil ?_;exact N_join _ ⟨rfl, Fr168, (Frz.le.refl _), hS212⟩ ⟨rfl, rfl, rfl, rfl, rfl, rfl, (look_bool rfl (by first | rfl | (rw [hb181]; first | done | rfl) | simp [hb181])), trivial⟩
          ·
           rcases Bool.eq_false_or_eq_true (!(x171.path == x176.path)) with hb213 | hb213
           ·have hy214 := hx176;rw [only_t (by first | rfl | (rw [hb181]; first | done | rfl) | simp [hb181, hb213])] at hy214;obtain ⟨hp215, hy215⟩ := ix_some hy214;obtain ⟨cs215, hr215, he215⟩ := (h1.mono ((((le2.trans ler7).trans le31).trans le161).trans ler168)).at_ hy215;obtain ⟨ue177_0, rfl, hue177_0⟩ := hr215;replace he215 : Elf _ _ 2 _ _ := he215
            apply C_draw 30 [[], [0], [1], [2], [3, 2], [2], [2], [5, 6, 2], [7, 2], [8, 2], [4, 9, 2], [2, 10], [11], [12], [13, 12], [12], [12], [15, 16, 12], [17, 12], [18, 12], [19, 12], [14, 20, 12], [12, 21], [22], [23], [24, 23], [25, 23], [23], [27, 23], [26, 28, 23]] [.val (.int .i64 r168.2), .val (.bool (decide (r168.2 ≠ 0))), .val (.bool false), .val (pl g173 (0 + 0)), .val (strV x171.path), .val (v1), .val (.int .i64 i162), .val (elp v1 (i162.toNat * 2)), .val (elp v1 ((i162.toNat * 2) + 0)), .val (strV x176.path), .val (.bool (!(x171.path == x176.path))), .val (.bool (!(x171.path == x176.path))), .val (.bool true), .val undef, .val undef, .val undef, .val undef, .val undef, .val undef, .val undef, .val undef, .val undef, .val (.bool true), .val (.bool true), .val undef, .val undef, .val undef, .val undef, .val undef, .val undef] Ty.mixed rfl rfl (by kernel_rfl) (by kernel_rfl) rfl
            ·refine ⟨?_, ?_, ?_, ?_, ?_, ?_, ?_, ?_, ?_, ?_, ?_, ?_, ?_, ?_, ?_, ?_, ?_, ?_, ?_, ?_, ?_, ?_, ?_, ?_, ?_, ?_, ?_, ?_, ?_, ?_, trivial⟩
             ·intro _ _ _ _;refine W_move rfl rfl ?_;exact Zs rfl rfl
             ·intro _ _ _ _;refine W_neq rfl rfl rfl ?_;exact Zs rfl rfl
             ·intro w218 vq218 hB218 hH218;have hS218 := hS175.below hB218;refine W_move rfl rfl ?_;refine W_nil ?_;exact N_step rfl (congrArg Value.bool hb181) (Below.refl _ _)
             ·intro _ _ _ _;refine W_guard_yes rfl ?_;refine W_field_pl 0 rfl Ty.field51_0 rfl ?_;exact Zs rfl rfl
             ·intro w220 vq220 hB220 hH220;have hS220 := hS175.below hB220;refine W_guard_yes rfl ?_;refine W_bld1 0 rfl Ty.cell9 rfl hS220 rfl rfl ?_;exact Zs rfl rfl
             ·intro _ _ _ _;refine W_guard_yes rfl ?_;refine W_move rfl rfl ?_;exact Zs rfl rfl
             ·intro _ _ _ _;refine W_guard_yes rfl ?_;refine W_move rfl rfl ?_;exact Zs rfl rfl
             ·intro w223 vq223 hB223 hH223;have hS223 := hS175.below hB223;refine W_guard_yes rfl ?_;refine W_ix rfl Try.underlying27 Ty.cells34 Ty.info34 rfl rfl (he215.el hS223.agree) hp215 rfl ?_;exact Zs rfl rfl
             ·intro w224 vq224 hB224 hH224;have hS224 := hS175.below hB224;refine W_guard_yes rfl ?_;refine W_fld 0 rfl Ty.field34_0 rfl (he215.el hS224.agree) ?_;exact Zs rfl rfl
             ·intro w225 vq225 hB225 hH225;have hS225 := hS175.below hB225;refine W_guard_yes rfl ?_;refine W_ld1 0 rfl Ty.cell9 rfl (he215.el hS225.agree) (by omega) rfl ?_;exact Zs rfl rfl
             ·intro _ _ _ _;refine W_guard_yes rfl ?_;refine W_neqS rfl rfl rfl ?_;exact Zs rfl rfl
             ·intro _ _ _ _;refine W_pick_f rfl rfl rfl ?_;exact Zs rfl rfl
             ·intro w228 vq228 hB228 hH228;have hS228 := hS175.below hB228;refine W_move rfl rfl ?_;refine W_nil ?_;exact N_step rfl (congrArg Value.bool hb213) (Below.refl _ _)
             ·intro _ _ _ _;refine W_guard_no rfl rfl rfl rfl rfl ?_;exact Zs rfl rfl
             ·intro _ _ _ _;refine W_guard_no rfl rfl rfl rfl rfl ?_;exact Zs rfl rfl
             ·intro _ _ _ _;refine W_guard_no rfl rfl rfl rfl rfl ?_;exact Zs rfl rfl
             ·intro _ _ _ _;refine W_guard_no rfl rfl rfl rfl rfl ?_;exact Zs rfl rfl
             ·intro _ _ _ _;refine W_guard_no rfl rfl rfl rfl rfl ?_;exact Zs rfl rfl
             ·intro _ _ _ _;refine W_guard_no rfl rfl rfl rfl rfl ?_;exact Zs rfl rfl
             ·intro _ _ _ _;refine W_guard_no rfl rfl rfl rfl rfl ?_;exact Zs rfl rfl
             ·intro _ _ _ _;refine W_guard_no rfl rfl rfl rfl rfl ?_;exact Zs rfl rfl
             ·intro _ _ _ _;refine W_guard_no rfl rfl rfl rfl rfl ?_;exact Zs rfl rfl
             ·intro _ _ _ _;refine W_pick_t rfl rfl rfl ?_;exact Zs rfl rfl
             ·intro _ _ _ _;refine W_move rfl rfl ?_;exact Zs rfl rfl
             ·intro _ _ _ _;refine W_guard_no rfl rfl rfl rfl rfl ?_;exact Zs rfl rfl
             ·intro _ _ _ _;refine W_guard_no rfl rfl rfl rfl rfl ?_;exact Zs rfl rfl
             ·intro _ _ _ _;refine W_guard_no rfl rfl rfl rfl rfl ?_;exact Zs rfl rfl
             ·intro _ _ _ _;refine W_guard_no rfl rfl rfl rfl rfl ?_;exact Zs rfl rfl
             ·intro _ _ _ _;refine W_guard_no rfl rfl rfl rfl rfl ?_;exact Zs rfl rfl
             ·intro _ _ _ _;refine W_guard_no rfl rfl rfl rfl rfl ?_;exact Zs rfl rfl
            intro w246 vq246 hB246 hH246;have hS246 := hS175.below hB246;refine W_pick_t rfl rfl rfl ?_;refine W_nil ?_;exact N_join _ ⟨rfl, Fr168, (Frz.le.refl _), hS246⟩ ⟨rfl, rfl, rfl, rfl, rfl, rfl, (look_bool rfl (by first | rfl | (rw [hb213, hb181]; first | done | rfl) | simp [hb181, hb213])), trivial⟩
           ·
            rcases Bool.eq_false_or_eq_true (decide (x171.size ≠ (x178.data.length : Int))) with hb247 | hb247
            ·have hy248 := hx176;rw [only_t (by first | rfl | (rw [hb181]; first | done | rfl) | simp [hb181, hb213, hb247])] at hy248;obtain ⟨hp249, hy249⟩ := ix_some hy248;obtain ⟨cs249, hr249, he249⟩ := (h1.mono ((((le2.trans ler7).trans le31).trans le161).trans ler168)).at_ hy249;obtain ⟨ue177_0, rfl, hue177_0⟩ := hr249;replace he249 : Elf _ _ 2 _ _ := he249;have hy250 := hx178;rw [only_t (by first | rfl | (rw [hb213, hb181]; first | done | rfl) | simp [hb181, hb213, hb247])] at hy250;obtain ⟨hp251, hy251⟩ := ix_some hy250;obtain ⟨cs251, hr251, he251⟩ := (h1.mono ((((le2.trans ler7).trans le31).trans le161).trans ler168)).at_ hy251;obtain ⟨ue179_0, rfl, hue179_0⟩ := hr251;replace he251 : Elf _ _ 2 _ _ := he251
             apply C_draw 30 [[], [0], [1], [2], [3, 2], [2], [2], [5, 6, 2], [7, 2], [8, 2], [4, 9, 2], [2, 10], [11], [12], [13, 12], [12], [12], [15, 16, 12], [17, 12], [18, 12], [19, 12], [14, 20, 12], [12, 21], [22], [23], [24, 23], [25, 23], [23], [27, 23], [26, 28, 23]] [.val (.int .i64 r168.2), .val (.bool (decide (r168.2 ≠ 0))), .val (.bool false), .val (pl g173 (0 + 0)), .val (strV x171.path), .val (v1), .val (.int .i64 i162), .val (elp v1 (i162.toNat * 2)), .val (elp v1 ((i162.toNat * 2) + 0)), .val (strV x176.path), .val (.bool (!(x171.path == x176.path))), .val (.bool (!(x171.path == x176.path))), .val (.bool false), .val (pl g173 (0 + 1)), .val (.int .i64 x171.size), .val (v1), .val (.int .i64 i162), .val (elp v1 (i162.toNat * 2)), .val (elp v1 ((i162.toNat * 2) + 1)), .val (ue179_0), .val (.int .i64 (x178.data.length : Int)), .val (.bool (decide (x171.size ≠ (x178.data.length : Int)))), .val (.bool (decide (x171.size ≠ (x178.data.length : Int)))), .val (.bool true), .val undef, .val undef, .val undef, .val undef, .val undef, .val undef] Ty.mixed rfl rfl (by kernel_rfl) (by kernel_rfl) rfl
             ·refine ⟨?_, ?_, ?_, ?_, ?_, ?_, ?_, ?_, ?_, ?_, ?_, ?_, ?_, ?_, ?_, ?_, ?_, ?_, ?_, ?_, ?_, ?_, ?_, ?_, ?_, ?_, ?_, ?_, ?_, ?_, trivial⟩
              ·intro _ _ _ _;refine W_move rfl rfl ?_;exact Zs rfl rfl
              ·intro _ _ _ _;refine W_neq rfl rfl rfl ?_;exact Zs rfl rfl
              ·intro w254 vq254 hB254 hH254;have hS254 := hS175.below hB254;refine W_move rfl rfl ?_;refine W_nil ?_;exact N_step rfl (congrArg Value.bool hb181) (Below.refl _ _)
              ·intro _ _ _ _;refine W_guard_yes rfl ?_;refine W_field_pl 0 rfl Ty.field51_0 rfl ?_;exact Zs rfl rfl
              ·intro w256 vq256 hB256 hH256;have hS256 := hS175.below hB256;refine W_guard_yes rfl ?_;refine W_bld1 0 rfl Ty.cell9 rfl hS256 rfl rfl ?_;exact Zs rfl rfl
              ·intro _ _ _ _;refine W_guard_yes rfl ?_;refine W_move rfl rfl ?_;exact Zs rfl rfl
              ·intro _ _ _ _;refine W_guard_yes rfl ?_;refine W_move rfl rfl ?_;exact Zs rfl rfl
              ·intro w259 vq259 hB259 hH259;have hS259 := hS175.below hB259;refine W_guard_yes rfl ?_;refine W_ix rfl Try.underlying27 Ty.cells34 Ty.info34 rfl rfl (he249.el hS259.agree) hp249 rfl ?_;exact Zs rfl rfl
              ·intro w260 vq260 hB260 hH260;have hS260 := hS175.below hB260;refine W_guard_yes rfl ?_;refine W_fld 0 rfl Ty.field34_0 rfl (he249.el hS260.agree) ?_;exact Zs rfl rfl
              ·intro w261 vq261 hB261 hH261;have hS261 := hS175.below hB261;refine W_guard_yes rfl ?_;refine W_ld1 0 rfl Ty.cell9 rfl (he249.el hS261.agree) (by omega) rfl ?_;exact Zs rfl rfl
              ·intro _ _ _ _;refine W_guard_yes rfl ?_;refine W_neqS rfl rfl rfl ?_;exact Zs rfl rfl
              ·intro _ _ _ _;refine W_pick_f rfl rfl rfl ?_;exact Zs rfl rfl
              ·intro w264 vq264 hB264 hH264;have hS264 := hS175.below hB264;refine W_move rfl rfl ?_;refine W_nil ?_;exact N_step rfl (congrArg Value.bool hb213) (Below.refl _ _)
              ·intro _ _ _ _;refine W_guard_yes rfl ?_;refine W_field_pl 1 rfl Ty.field51_1 rfl ?_;exact Zs rfl rfl
              ·intro w266 vq266 hB266 hH266;have hS266 := hS175.below hB266;refine W_guard_yes rfl ?_;refine W_bld1 0 rfl Ty.cell3 rfl hS266 rfl rfl ?_;exact Zs rfl rfl
              ·intro _ _ _ _;refine W_guard_yes rfl ?_;refine W_move rfl rfl ?_;exact Zs rfl rfl
              ·intro _ _ _ _;refine W_guard_yes rfl ?_;refine W_move rfl rfl ?_;exact Zs rfl rfl
              ·intro w269 vq269 hB269 hH269;have hS269 := hS175.below hB269;refine W_guard_yes rfl ?_;refine W_ix rfl Try.underlying27 Ty.cells34 Ty.info34 rfl rfl (he251.el hS269.agree) hp251 rfl ?_;exact Zs rfl rfl
              ·intro w270 vq270 hB270 hH270;have hS270 := hS175.below hB270;refine W_guard_yes rfl ?_;refine W_fld 1 rfl Ty.field34_1 rfl (he251.el hS270.agree) ?_;exact Zs rfl rfl
              ·intro w271 vq271 hB271 hH271;have hS271 := hS175.below hB271;refine W_guard_yes rfl ?_;refine W_ld1 1 rfl Ty.cell25 rfl (he251.el hS271.agree) (by omega) rfl ?_;exact Zs rfl rfl
              ·intro _ _ _ _;refine W_guard_yes rfl ?_;refine W_lenv rfl Try.underlying25 rfl hue179_0.ln ?_;exact Zs rfl rfl
              ·intro _ _ _ _;refine W_guard_yes rfl ?_;refine W_neq rfl rfl rfl ?_;exact Zs rfl rfl
              ·intro _ _ _ _;refine W_pick_f rfl rfl rfl ?_;exact Zs rfl rfl
              ·intro w275 vq275 hB275 hH275;have hS275 := hS175.below hB275;refine W_move rfl rfl ?_;refine W_nil ?_;exact N_step rfl (congrArg Value.bool hb247) (Below.refl _ _)
              ·intro _ _ _ _;refine W_guard_no rfl rfl rfl rfl rfl ?_;exact Zs rfl rfl
              ·intro _ _ _ _;refine W_guard_no rfl rfl rfl rfl rfl ?_;exact Zs rfl rfl
              ·intro _ _ _ _;refine W_guard_no rfl rfl rfl rfl rfl ?_;exact Zs rfl rfl
              ·intro _ _ _ _;refine W_guard_no rfl rfl rfl rfl rfl ?_;exact Zs rfl rfl
              ·intro _ _ _ _;refine W_guard_no rfl rfl rfl rfl rfl ?_;exact Zs rfl rfl
              ·intro _ _ _ _;refine W_guard_no rfl rfl rfl rfl rfl ?_;exact Zs rfl rfl
             intro w282 vq282 hB282 hH282;have hS282 := hS175.below hB282;refine W_pick_t rfl rfl rfl ?_;refine W_nil ?_;exact N_join _ ⟨rfl, Fr168, (Frz.le.refl _), hS282⟩ ⟨rfl, rfl, rfl, rfl, rfl, rfl, (look_bool rfl (by first | rfl | (rw [hb247, hb213, hb181]; first | done | rfl) | simp [hb181, hb213, hb247])), trivial⟩
            ·have hy283 := hx176;rw [only_t (by first | rfl | (rw [hb181]; first | done | rfl) | simp [hb181, hb213, hb247])] at hy283;obtain ⟨hp284, hy284⟩ := ix_some hy283;obtain ⟨cs284, hr284, he284⟩ := (h1.mono ((((le2.trans ler7).trans le31).trans le161).trans ler168)).at_ hy284;obtain ⟨ue177_0, rfl, hue177_0⟩ := hr284;replace he284 : Elf _ _ 2 _ _ := he284;have hy285 := hx178;rw [only_t (by first | rfl | (rw [hb213, hb181]; first | done | rfl) | simp [hb181, hb213, hb247])] at hy285;obtain ⟨hp286, hy286⟩ := ix_some hy285;obtain ⟨cs286, hr286, he286⟩ := (h1.mono ((((le2.trans ler7).trans le31).trans le161).trans ler168)).at_ hy286;obtain ⟨ue179_0, rfl, hue179_0⟩ := hr286;replace he286 : Elf _ _ 2 _ _ := he286
             apply C_draw 30 [[], [0], [1], [2], [3, 2], [2], [2], [5, 6, 2], [7, 2], [8, 2], [4, 9, 2], [2, 10], [11], [12], [13, 12], [12], [12], [15, 16, 12], [17, 12], [18, 12], [19, 12], [14, 20, 12], [12, 21], [22], [23], [24, 23], [25, 23], [23], [27, 23], [26, 28, 23]] [.val (.int .i64 r168.2), .val (.bool (decide (r168.2 ≠ 0))), .val (.bool false), .val (pl g173 (0 + 0)), .val (strV x171.path), .val (v1), .val (.int .i64 i162), .val (elp v1 (i162.toNat * 2)), .val (elp v1 ((i162.toNat * 2) + 0)), .val (strV x176.path), .val (.bool (!(x171.path == x176.path))), .val (.bool (!(x171.path == x176.path))), .val (.bool false), .val (pl g173 (0 + 1)), .val (.int .i64 x171.size), .val (v1), .val (.int .i64 i162), .val (elp v1 (i162.toNat * 2)), .val (elp v1 ((i162.toNat * 2) + 1)), .val (ue179_0), .val (.int .i64 (x178.data.length : Int)), .val (.bool (decide (x171.size ≠ (x178.data.length : Int)))), .val (.bool (decide (x171.size ≠ (x178.data.length : Int)))), .val (.bool false), .val (pl g173 (0 + 2)), .val (ue172_0), .val (.int .i64 (x171.ids.length : Int)), .val (ur168_0), .val (.int .i64 (r168.1.length : Int)), .val (.bool (decide ((x171.ids.length : Int) ≠ (r168.1.length : Int))))] Ty.mixed rfl rfl (by kernel_rfl) (by kernel_rfl) rfl
             ·refine ⟨?_, ?_, ?_, ?_, ?_, ?_, ?_, ?_, ?_, ?_, ?_, ?_, ?_, ?_, ?_, ?_, ?_, ?_, ?_, ?_, ?_, ?_, ?_, ?_, ?_, ?_, ?_, ?_, ?_, ?_, trivial⟩
              ·intro _ _ _ _;refine W_move rfl rfl ?_;exact Zs rfl rfl
              ·intro _ _ _ _;refine W_neq rfl rfl rfl ?_;exact Zs rfl rfl
              ·intro w289 vq289 hB289 hH289;have hS289 := hS175.below hB289;refine W_move rfl rfl ?_;refine W_nil ?_;exact N_step rfl (congrArg Value.bool hb181) (Below.refl _ _)
              ·intro _ _ _ _;refine W_guard_yes rfl ?_;refine W_field_pl 0 rfl Ty.field51_0 rfl ?_;exact Zs rfl rfl
              ·intro w291 vq291 hB291 hH291;have hS291 := hS175.below hB291;refine W_guard_yes rfl ?_;refine W_bld1 0 rfl Ty.cell9 rfl hS291 rfl rfl ?_;exact Zs rfl rfl
              ·intro _ _ _ _;refine W_guard_yes rfl ?_;refine W_move rfl rfl ?_;exact Zs rfl rfl
              ·intro _ _ _ _;refine W_guard_yes rfl ?_;refine W_move rfl rfl ?_;exact Zs rfl rfl
              ·intro w294 vq294 hB294 hH294;have hS294 := hS175.below hB294;refine W_guard_yes rfl ?_;refine W_ix rfl Try.underlying27 Ty.cells34 Ty.info34 rfl rfl (he284.el hS294.agree) hp284 rfl ?_;exact Zs rfl rfl
              ·intro w295 vq295 hB295 hH295;have hS295 := hS175.below hB295;refine W_guard_yes rfl ?_;refine W_fld 0 rfl Ty.field34_0 rfl (he284.el hS295.agree) ?_;exact Zs rfl rfl
              ·intro w296 vq296 hB296 hH296;have hS296 := hS175.below hB296;refine W_guard_yes rfl ?_;refine W_ld1 0 rfl Ty.cell9 rfl (he284.el hS296.agree) (by omega) rfl ?_;exact Zs rfl rfl
              ·intro _ _ _ _;refine W_guard_yes rfl ?_;refine W_neqS rfl rfl rfl ?_;exact Zs rfl rfl
              ·intro _ _ _ _;refine W_pick_f rfl rfl rfl ?_;exact Zs rfl rfl
              ·intro w299 vq299 hB299 hH299;have hS299 := hS175.below hB299;refine W_move rfl rfl ?_;refine W_nil ?_;exact N_step rfl (congrArg Value.bool hb213) (Below.refl _ _)
              ·intro _ _ _ _;refine W_guard_yes rfl ?_;refine W_field_pl 1 rfl Ty.field51_1 rfl ?_;exact Zs rfl rfl
              ·intro w301 vq301 hB301 hH301;have hS301 := hS175.below hB301;refine W_guard_yes rfl ?_;refine W_bld1 0 rfl Ty.cell3 rfl hS301 rfl rfl ?_;exact Zs rfl rfl
              ·intro _ _ _ _;refine W_guard_yes rfl ?_;refine W_move rfl rfl ?_;exact Zs rfl rfl
              ·intro _ _ _ _;refine W_guard_yes rfl ?_;refine W_move rfl rfl ?_;exact Zs rfl rfl
              ·intro w304 vq304 hB304 hH304;have hS304 := hS175.below hB304;refine W_guard_yes rfl ?_;refine W_ix rfl Try.underlying27 Ty.cells34 Ty.info34 rfl rfl (he286.el hS304.agree) hp286 rfl ?_;exact Zs rfl rfl
              ·intro w305 vq305 hB305 hH305;have hS305 := hS175.below hB305;refine W_guard_yes rfl ?_;refine W_fld 1 rfl Ty.field34_1 rfl (he286.el hS305.agree) ?_;exact Zs rfl rfl
              ·intro w306 vq306 hB306 hH306;have hS306 := hS175.below hB306;refine W_guard_yes rfl ?_;refine W_ld1 1 rfl Ty.cell25 rfl (he286.el hS306.agree) (by omega) rfl ?_;exact Zs rfl rfl
              ·intro _ _ _ _;refine W_guard_yes rfl ?_;refine W_lenv rfl Try.underlying25 rfl hue179_0.ln ?_;exact Zs rfl rfl
              ·intro _ _ _ _;refine W_guard_yes rfl ?_;refine W_neq rfl rfl rfl ?_;exact Zs rfl rfl
              ·intro _ _ _ _;refine W_pick_f rfl rfl rfl ?_;exact Zs rfl rfl
              ·intro w310 vq310 hB310 hH310;have hS310 := hS175.below hB310;refine W_move rfl rfl ?_;refine W_nil ?_;exact N_step rfl (congrArg Value.bool hb247) (Below.refl _ _)
              ·intro _ _ _ _;refine W_guard_yes rfl ?_;refine W_field_pl 2 rfl Ty.field51_2 rfl ?_;exact Zs rfl rfl
              ·intro w312 vq312 hB312 hH312;have hS312 := hS175.below hB312;refine W_guard_yes rfl ?_;refine W_bld1 0 rfl Ty.cell49 rfl hS312 rfl rfl ?_;exact Zs rfl rfl
              ·intro _ _ _ _;refine W_guard_yes rfl ?_;refine W_lenv rfl Try.underlying49 rfl hue172_0.ln ?_;exact Zs rfl rfl
              ·intro _ _ _ _;refine W_guard_yes rfl ?_;refine W_move rfl rfl ?_;exact Zs rfl rfl
              ·intro w315 vq315 hB315 hH315;have hS315 := hS175.below hB315;refine W_guard_yes rfl ?_;refine W_lenv rfl Try.underlying52 rfl (hS315.rowLn (k := 1) rfl) ?_;exact Zs rfl rfl
              ·intro _ _ _ _;refine W_guard_yes rfl ?_;refine W_neq rfl rfl rfl ?_;exact Zs rfl rfl
             intro w317 vq317 hB317 hH317;have hS317 := hS175.below hB317;refine W_pick_f rfl rfl rfl ?_;refine W_nil ?_;exact N_join _ ⟨rfl, Fr168, (Frz.le.refl _), hS317⟩ ⟨rfl, rfl, rfl, rfl, rfl, rfl, (look_bool rfl (by first | rfl | (rw [hb247, hb213, hb181]; first | done | rfl) | simp [hb181, hb213, hb247])), trivial⟩
         rintro E w180 ⟨rfl, F180, le180, hS180⟩;refine N_code ?_;refine C_cond rfl (fun hc318 => ?_) (fun hc318 => ?_)
         ·rw [if_t hc318] at H;refine C_seq ?_;refine C_region ?_;refine W_assign rfl rfl ?_;refine W_nil ?_;refine N_code ?_;obtain rfl := Option.some.inj H;refine C_ret rfl rfl ?_;exact ⟨F180, rfl, hS180.pick [] (by decide)⟩
         ·rw [if_f hc318] at H;refine C_skip ?_;refine N_code ?_;refine C_seq ?_;refine C_region ?_;refine W_assign rfl rfl ?_;refine W_nil ?_;refine N_code ?_;refine C_block ?_;refine C_loopM (fun (s : Int) E wq => ∃ (F319 : Frz), E = [(1, v1), (5, pl g8 0), (6, ur7_1), (8, .int .i64 i162), (9, ur168_0), (11, pl g173 0), (12, .int .i64 s)] ∧ F180.le F319 ∧ St [] w F F319 [.box g173 51 [strV x171.path, .int .i64 x171.size, ue172_0], .row (tSl tB) 25 ur168_0 r168.1, .box g8 45 [strV r7.1.name, ur7_0_0], .row (tSl tB) 25 ur7_1 r7.2.1] wq) H ?_ ?_
          ·exact ⟨_, ⟨F180, rfl, (Frz.le.refl _), hS180⟩, ⟨rfl, rfl, rfl, rfl, rfl, rfl, rfl, trivial⟩⟩
          ·rintro rec321 i320 E w319 hI H;(try dsimp only at hI);obtain ⟨F319, rfl, le319, hS319⟩ := hI;dsimp only [cellarerlaw17_ManifestIds.l6] at H;refine C_seq ?_;refine C_seq ?_;refine C_region ?_;refine W_move rfl rfl ?_;refine W_move rfl rfl ?_;refine W_lenv rfl Try.underlying52 rfl (hS319.rowLn (k := 1) rfl) ?_;refine W_lss rfl rfl rfl ?_;refine W_nil ?_;refine N_code ?_;refine C_cond rfl (fun hc322 => ?_) (fun hc322 => ?_)
           ·rw [if_t hc322] at H;refine C_skip ?_;refine N_code ?_;refine C_seq ?_;refine C_block ?_;refine C_seq ?_;obtain ⟨x323, hx323, H⟩ := bd_some H;obtain ⟨x325, hx325, H⟩ := bd_some H;obtain ⟨r328, hr328, H⟩ := bd_some H;obtain ⟨hp329, hy329⟩ := ix_some hx323;obtain ⟨cs329, hr329, he329⟩ := (hue172_0.mono (le180.trans le319)).at_ hy329;obtain ⟨rfl, hle324⟩ := hr329;replace he329 : Elf _ _ 32 _ _ := he329;obtain ⟨hp330, hy330⟩ := ix_some hx325;obtain ⟨cs330, hr330, he330⟩ := hS319.rowAt (k := 1) rfl hy330;obtain ⟨ue326, rfl, hue326⟩ := hr330;replace he330 : El _ _ 1 _ _ := he330
            apply C_draw 11 [[], [0], [], [1, 2], [3], [], [], [5, 6], [7], [8], [9]] [.val (pl g173 (0 + 2)), .val (ue172_0), .val (.int .i64 i320), .val (elp ue172_0 (i320.toNat * 32)), .val (.agg (idCells x323).toArray), .val (ur168_0), .val (.int .i64 i320), .val (elp ur168_0 (i320.toNat * 1)), .val (ue326), .pred (fun v wz => Src (tSl tB) F319 wz v [x325]) stable_src, .pred (fun v wz => ∃ Fr328, (v = .agg (idCells r328).toArray ∧ (r328).length = 32) ∧ St [] w319 F319 Fr328 [] wz) stable_ex] Ty.mixed rfl rfl (by kernel_rfl) (by kernel_rfl) rfl
            ·refine ⟨?_, ?_, ?_, ?_, ?_, ?_, ?_, ?_, ?_, ?_, ?_, trivial⟩
             ·intro _ _ _ _;refine W_field_pl 2 rfl Ty.field51_2 rfl ?_;exact Zs rfl rfl
             ·intro w332 vq332 hB332 hH332;have hS332 := hS319.below hB332;refine W_bld1 0 rfl Ty.cell49 rfl hS332 rfl rfl ?_;exact Zs rfl rfl
             ·intro _ _ _ _;refine W_move rfl rfl ?_;exact Zs rfl rfl
             ·intro w334 vq334 hB334 hH334;have hS334 := hS319.below hB334;refine W_ix rfl Try.underlying49 Ty.cells57 Ty.info57 rfl rfl (he329.el hS334.agree) hp329 rfl ?_;exact Zs rfl rfl
             ·intro w335 vq335 hB335 hH335;have hS335 := hS319.below hB335;refine W_ldg 0 ((idCells x323)) rfl Ty.agg57 Ty.size57 rfl (he329.el hS335.agree) (by omega) (fun q u h => sub_at (post := []) rfl h) ?_;exact Zs rfl rfl
             ·intro _ _ _ _;refine W_move rfl rfl ?_;exact Zs rfl rfl
             ·intro _ _ _ _;refine W_move rfl rfl ?_;exact Zs rfl rfl
             ·intro w338 vq338 hB338 hH338;have hS338 := hS319.below hB338;refine W_ix rfl Try.underlying52 Ty.cells25 Ty.info25 rfl rfl (he330.below hB338) hp330 rfl ?_;exact Zs rfl rfl
             ·intro w339 vq339 hB339 hH339;have hS339 := hS319.below hB339;refine W_ld1 0 rfl Ty.cell25 rfl (he330.below hB339) (by omega) rfl ?_;exact Zs rfl rfl
             ·intro w340 vq340 hB340 hH340;have hS340 := hS319.below hB340;refine W_bs0 (t := (tSl tB)) [[ue326]] [x325] rfl Try.underlying52 Ty.cells25 rfl rfl Ty.zero25 rfl (by simp [(hue326.ln).cells]) ⟨⟨_, rfl, hue326⟩, trivial⟩ rfl rfl hS340.agree ?_;intro u327 w327 hB327 hs327;refine W_nil ?_;exact N_step rfl hs327 hB327
             ·intro w341 vq341 hB341 hH341;obtain ⟨hp341_9, _⟩ := hH341;have hS341 := hS319.below hB341;refine W_call rfl Ty.named34 rfl (shaSum_ok (now_agree _) (hp341_9.now hS341.agree) hr328) ?_;rintro v342 w342 ⟨Fr328, rfl, hlr328_0, hT342⟩;refine W_nil ?_;exact N_step rfl ⟨F319, ⟨rfl, hlr328_0⟩, (St.from hS319.agree hB341).below hT342.below0⟩ hT342.below0
            intro w343 vq343 hB343 hH343;obtain ⟨_, _, _, _, _, _, _, _, _, hp343_9, ⟨Fr328, ⟨he343_10, hlr328_0⟩, hTcr328⟩, _⟩ := hH343;have hS343 := hS319.call hTcr328;have le343 := hTcr328.ext;refine W_eqv (t := 135) rfl he343_10 ?_;refine W_neqI rfl Try.underlying57 Try.underlying5 Ty.cells5 Ty.info5 (by kernel_rfl) rfl rfl hle324 hlr328_0 ?_;refine W_nil ?_;refine N_code ?_;refine C_cond rfl (fun hc344 => ?_) (fun hc344 => ?_)
            ·rw [if_t hc344] at H;refine C_seq ?_;refine C_region ?_;refine W_assign rfl rfl ?_;refine W_nil ?_;refine N_code ?_;obtain rfl := Option.some.inj H;refine C_ret rfl rfl ?_;exact ⟨Fr328, rfl, hS343.pick [] (by decide)⟩
            ·rw [if_f hc344] at H;refine C_skip ?_;refine N_block ?_;refine N_code ?_;refine C_region ?_;refine W_move rfl rfl ?_;refine W_add rfl rfl rfl rfl ?_;refine W_assign rfl rfl ?_;refine W_nil ?_;exact N_againM (wr (i320 + 1)) _ H ⟨Fr328, rfl, (le319.trans le343), hS343⟩ ⟨rfl, rfl, rfl, rfl, rfl, rfl, rfl, trivial⟩
           ·rw [if_f hc322] at H;refine C_exit _ rfl ?_;refine N_block ?_;exact N_join _ ⟨H, ⟨F319, rfl, ((ler168.trans le180).trans le319), hS319.pick [2, 3] (by decide)⟩⟩ ⟨rfl, rfl, rfl, rfl, trivial⟩
        ·rintro E w165 ⟨H, F165, rfl, le165, hS165⟩;dsimp only [cellarerlaw17_ManifestIds.k5] at H;refine C_region ?_;refine W_move rfl rfl ?_;refine W_add rfl rfl rfl rfl ?_;refine W_assign rfl rfl ?_;refine W_nil ?_;exact N_againM (wr (i162 + 1)) _ H ⟨F165, rfl, (le161.trans le165), hS165⟩ ⟨rfl, rfl, rfl, rfl, trivial⟩
       ·rw [if_f hc164] at H;refine C_exit _ rfl ?_;exact N_join _ ⟨H, ⟨F161, rfl, le161, hS161⟩⟩ ⟨rfl, rfl, trivial⟩
     ·rintro E w34 ⟨H, F34, rfl, le34, hS34⟩;dsimp only [cellarerlaw17_ManifestIds.k1] at H;refine C_seq ?_;obtain ⟨r35, hr35, H⟩ := bd_some H;refine C_region ?_;refine W_bldg 0 ((Manifest.cells r7.1 ur7_0_0)) rfl Ty.agg45 Ty.size45 rfl hS34 rfl (fun q u h => sub_at (post := []) rfl h) ?_;refine W_call rfl Ty.named35 rfl (manifest_Ids_ok hS34.agree (hfr7_0_0.mono (le31.trans le34)) hr35) ?_;rintro ur35_0 w36 ⟨Fr35, _, rfl, hT36⟩;have hS36 := hS34.call hT36;have ler35 := hT36.ext;refine W_assign rfl rfl ?_;refine W_nil ?_;refine N_code ?_;refine C_seq ?_;refine C_seq ?_;refine C_region ?_;refine W_move rfl rfl ?_;refine W_lenv rfl Try.underlying49 rfl (hS36.rowLn (k := 0) rfl) ?_;refine W_move rfl rfl ?_;refine W_lenv rfl Try.underlying52 rfl (hS36.rowLn (k := 2) rfl) ?_;refine W_neq rfl rfl rfl ?_;refine W_nil ?_;refine N_code ?_;refine C_cond rfl (fun hc37 => ?_) (fun hc37 => ?_)
      ·rw [if_t hc37] at H;refine C_seq ?_;refine C_region ?_;refine W_assign rfl rfl ?_;refine W_nil ?_;refine N_code ?_;obtain rfl := Option.some.inj H;refine C_ret rfl rfl ?_;exact ⟨Fr35, rfl, hS36.pick [] (by decide)⟩
      ·rw [if_f hc37] at H;refine C_skip ?_;refine N_code ?_;refine C_seq_join (fun E wq => cellarerlaw17_ManifestIds.k2 = some r ∧ ∃ (F38 : Frz), E = [] ∧ Fr35.le F38 ∧ St [] w F F38 [] wq) ?_ ?_
       ·refine C_seq ?_;refine C_region ?_;refine W_assign rfl rfl ?_;refine W_nil ?_;refine N_code ?_;refine C_block ?_;refine C_loopM (fun (s : Int) E wq => ∃ (F41 : Frz), E = [(6, ur7_1), (13, ur35_0), (14, .int .i64 s)] ∧ Fr35.le F41 ∧ St [] w F F41 [.row tId 57 ur35_0 r35, .row (tSl tB) 25 ur7_1 r7.2.1] wq) H ?_ ?_
        ·exact ⟨_, ⟨Fr35, rfl, (Frz.le.refl _), hS36.pick [0, 2] (by decide)⟩, ⟨rfl, rfl, rfl, trivial⟩⟩
        ·rintro rec43 i42 E w41 hI H;(try dsimp only at hI);obtain ⟨F41, rfl, le41, hS41⟩ := hI;dsimp only [cellarerlaw17_ManifestIds.l3] at H;refine C_seq ?_;refine C_seq ?_;refine C_region ?_;refine W_move rfl rfl ?_;refine W_move rfl rfl ?_;refine W_lenv rfl Try.underlying52 rfl (hS41.rowLn (k := 1) rfl) ?_;refine W_lss rfl rfl rfl ?_;refine W_nil ?_;refine N_code ?_;refine C_cond rfl (fun hc44 => ?_) (fun hc44 => ?_)
         ·rw [if_t hc44] at H;refine C_skip ?_;refine N_code ?_;refine C_seq ?_;refine C_block ?_;refine C_seq ?_;obtain ⟨x45, hx45, H⟩ := bd_some H;obtain ⟨r48, hr48, H⟩ := bd_some H;obtain ⟨x49, hx49, H⟩ := bd_some H;obtain ⟨x51, hx51, H⟩ := bd_some H;obtain ⟨x54, hx54, H⟩ := bd_some H;refine C_join (fun E wq => E = [(6, ur7_1), (13, ur35_0), (14, .int .i64 i42), (178, .bool ((!decide (r48 = x49)) || (decide (0 < i42) && (!sLt x51 x54))))] ∧ ∃ F57 : Frz, F41.le F57 ∧ St [] w F F57 [.row tId 57 ur35_0 r35, .row (tSl tB) 25 ur7_1 r7.2.1] wq) ?_ ?_
          ·
           rcases Bool.eq_false_or_eq_true (!decide (r48 = x49)) with hb58 | hb58
           ·obtain ⟨hp59, hy59⟩ := ix_some hx45;obtain ⟨cs59, hr59, he59⟩ := hS41.rowAt (k := 1) rfl hy59;obtain ⟨ue46, rfl, hue46⟩ := hr59;replace he59 : El _ _ 1 _ _ := he59;obtain ⟨hp60, hy60⟩ := ix_some hx49;obtain ⟨cs60, hr60, he60⟩ := hS41.rowAt (k := 0) rfl hy60;obtain ⟨rfl, hle50⟩ := hr60;replace he60 : El _ _ 32 _ _ := he60
            apply C_draw 28 [[], [], [0, 1], [2], [3], [4], [], [], [6, 7], [8], [5, 9], [10], [11], [12, 11], [13, 11], [14], [14], [16, 14], [15, 17, 14], [18, 14], [19, 14], [14], [14], [21, 22, 14], [23, 14], [24, 14], [20, 25, 14], [14, 26, 11]] [.val (ur7_1), .val (.int .i64 i42), .val (elp ur7_1 (i42.toNat * 1)), .val (ue46), .pred (fun v wz => Src (tSl tB) F41 wz v [x45]) stable_src, .pred (fun v wz => ∃ Fr48, (v = .agg (idCells r48).toArray ∧ (r48).length = 32) ∧ St [] w41 F41 Fr48 [] wz) stable_ex, .val (ur35_0), .val (.int .i64 i42), .val (elp ur35_0 (i42.toNat * 32)), .val (.agg (idCells x49).toArray), .val (.bool (!decide (r48 = x49))), .val (.bool true), .val undef, .val undef, .val undef, .val undef, .val undef, .val undef, .val undef, .val undef, .val undef, .val undef, .val undef, .val undef, .val undef, .val undef, .val undef, .val undef] Ty.mixed rfl rfl (by kernel_rfl) (by kernel_rfl) rfl
            ·refine ⟨?_, ?_, ?_, ?_, ?_, ?_, ?_, ?_, ?_, ?_, ?_, ?_, ?_, ?_, ?_, ?_, ?_, ?_, ?_, ?_, ?_, ?_, ?_, ?_, ?_, ?_, ?_, ?_, trivial⟩
             ·intro _ _ _ _;refine W_move rfl rfl ?_;exact Zs rfl rfl
             ·intro _ _ _ _;refine W_move rfl rfl ?_;exact Zs rfl rfl
             ·intro w63 vq63 hB63 hH63;have hS63 := hS41.below hB63;refine W_ix rfl Try.underlying52 Ty.cells25 Ty.info25 rfl rfl (he59.below hB63) hp59 rfl ?_;exact Zs rfl rfl
             ·intro w64 vq64 hB64 hH64;have hS64 := hS41.below hB64;refine W_ld1 0 rfl Ty.cell25 rfl (he59.below hB64) (by omega) rfl ?_;exact Zs rfl rfl
             ·intro w65 vq65 hB65 hH65;have hS65 := hS41.below hB65;refine W_bs0 (t := (tSl tB)) [[ue46]] [x45] rfl Try.underlying52 Ty.cells25 rfl rfl Ty.zero25 rfl (by simp [(hue46.ln).cells]) ⟨⟨_, rfl, hue46⟩, trivial⟩ rfl rfl hS65.agree ?_;intro u47 w47 hB47 hs47;refine W_nil ?_;exact N_step rfl hs47 hB47
             ·intro w66 vq66 hB66 hH66;obtain ⟨hp66_4, _⟩ := hH66;have hS66 := hS41.below hB66;refine W_call rfl Ty.named34 rfl (shaSum_ok (now_agree _) (hp66_4.now hS66.agree) hr48) ?_;rintro v67 w67 ⟨Fr48, rfl, hlr48_0, hT67⟩;refine W_nil ?_;exact N_step rfl ⟨F41, ⟨rfl, hlr48_0⟩, (St.from hS41.agree hB66).below hT67.below0⟩ hT67.below0
             ·intro _ _ _ _;refine W_move rfl rfl ?_;exact Zs rfl rfl
             ·intro _ _ _ _;refine W_move rfl rfl ?_;exact Zs rfl rfl
             ·intro w70 vq70 hB70 hH70;have hS70 := hS41.below hB70;refine W_ix rfl Try.underlying49 Ty.cells57 Ty.info57 rfl rfl (he60.below hB70) hp60 rfl ?_;exact Zs rfl rfl
             ·intro w71 vq71 hB71 hH71;have hS71 := hS41.below hB71;refine W_ldg 0 ((idCells x49)) rfl Ty.agg57 Ty.size57 rfl (he60.below hB71) (by omega) (fun q u h => sub_at (post := []) rfl h) ?_;exact Zs rfl rfl
             ·intro w72 vq72 hB72 hH72;obtain ⟨⟨Fr48, ⟨he72_5, hlr48_0⟩, hTcr48⟩, _, _⟩ := hH72;have hS72 := hS41.call hTcr48;have le72 := hTcr48.ext;refine W_eqv (t := 155) rfl he72_5 ?_;refine W_neqI rfl Try.underlying57 Try.underlying5 Ty.cells5 Ty.info5 (by kernel_rfl) rfl rfl hlr48_0 hle50 ?_;exact Zs rfl rfl
             ·intro w73 vq73 hB73 hH73;have hS73 := hS41.below hB73;refine W_move rfl rfl ?_;refine W_nil ?_;exact N_step rfl (congrArg Value.bool hb58) (Below.refl _ _)
             ·intro _ _ _ _;refine W_guard_no rfl rfl rfl rfl rfl ?_;exact Zs rfl rfl
             ·intro _ _ _ _;refine W_guard_no rfl rfl rfl rfl rfl ?_;exact Zs rfl rfl
             ·intro _ _ _ _;refine W_guard_no rfl rfl rfl rfl rfl ?_;exact Zs rfl rfl
             ·intro _ _ _ _;refine W_guard_un rfl rfl rfl rfl ?_;exact Zs rfl rfl
             ·intro _ _ _ _;refine W_guard_un rfl rfl rfl rfl ?_;exact Zs rfl rfl
             ·intro _ _ _ _;refine W_guard_un rfl rfl rfl rfl ?_;exact Zs rfl rfl
             ·intro _ _ _ _;refine W_guard_un rfl rfl rfl rfl ?_;exact Zs rfl rfl
             ·intro _ _ _ _;refine W_guard_un rfl rfl rfl rfl ?_;exact Zs rfl rfl
             ·intro _ _ _ _;refine W_guard_un rfl rfl rfl rfl ?_;exact Zs rfl rfl
             ·intro _ _ _ _;refine W_guard_un rfl rfl rfl rfl ?_;exact Zs rfl rfl
             ·intro _ _ _ _;refine W_guard_un rfl rfl rfl rfl ?_;exact Zs rfl rfl
             ·intro _ _ _ _;refine W_guard_un rfl rfl rfl rfl ?_;exact Zs rfl rfl
             ·intro _ _ _ _;refine W_guard_un rfl rfl rfl rfl ?_;exact Zs rfl rfl
             ·intro _ _ _ _;refine W_guard_un rfl rfl rfl rfl ?_;exact Zs rfl rfl
             ·intro _ _ _ _;refine W_guard_un rfl rfl rfl rfl ?_;exact Zs rfl rfl
             ·intro _ _ _ _;refine W_guard_no rfl rfl rfl rfl rfl ?_;exact Zs rfl rfl
            intro w90 vq90 hB90 hH90;obtain ⟨_, _, _, _, hp90_4, ⟨Fr48, ⟨he90_5, hlr48_0⟩, hTcr48⟩, _, _, _, _, _, _, _, _, _, _, _, _, _, _, _, _, _, _, _, _, _, _, _⟩ := hH90;have hS90 := hS41.call hTcr48;have le90 := hTcr48.ext;refine W_eqv (t := 155) rfl he90_5 ?_;refine W_pick_t rfl rfl rfl ?_;refine W_nil ?_;exact N_join _ ⟨rfl, Fr48, le90, hS90⟩ ⟨rfl, rfl, rfl, (look_bool rfl (by first | rfl | (rw [hb58]; first | done | rfl) | simp [hb58])), trivial⟩
           ·
            rcases Bool.eq_false_or_eq_true (decide (0 < i42)) with hb91 | hb91
            ·obtain ⟨hp92, hy92⟩ := ix_some hx45;obtain ⟨cs92, hr92, he92⟩ := hS41.rowAt (k := 1) rfl hy92;obtain ⟨ue46, rfl, hue46⟩ := hr92;replace he92 : El _ _ 1 _ _ := he92;obtain ⟨hp93, hy93⟩ := ix_some hx49;obtain ⟨cs93, hr93, he93⟩ := hS41.rowAt (k := 0) rfl hy93;obtain ⟨rfl, hle50⟩ := hr93;replace he93 : El _ _ 32 _ _ := he93;have hy94 := hx51;rw [only_t (by first | rfl | (rw [hb58, hb91]; first | done | rfl) | simp [hb58, hb91])] at hy94;obtain ⟨hp95, hy95⟩ := ix_some hy94;obtain ⟨cs95, hr95, he95⟩ := hS41.rowAt (k := 0) rfl hy95;obtain ⟨rfl, hle52⟩ := hr95;replace he95 : El _ _ 32 _ _ := he95;have hy96 := hx54;rw [only_t (by first | rfl | (rw [hb58, hb91]; first | done | rfl) | simp [hb58, hb91])] at hy96;obtain ⟨hp97, hy97⟩ := ix_some hy96;obtain ⟨cs97, hr97, he97⟩ := hS41.rowAt (k := 0) rfl hy97;obtain ⟨rfl, hle55⟩ := hr97;replace he97 : El _ _ 32 _ _ := he97
             apply C_draw 28 [[], [], [0, 1], [2], [3], [4], [], [], [6, 7], [8], [5, 9], [10], [11], [12, 11], [13, 11], [14], [14], [16, 14], [15, 17, 14], [18, 14], [19, 14], [14], [14], [21, 22, 14], [23, 14], [24, 14], [20, 25, 14], [14, 26, 11]] [.val (ur7_1), .val (.int .i64 i42), .val (elp ur7_1 (i42.toNat * 1)), .val (ue46), .pred (fun v wz => Src (tSl tB) F41 wz v [x45]) stable_src, .pred (fun v wz => ∃ Fr48, (v = .agg (idCells r48).toArray ∧ (r48).length = 32) ∧ St [] w41 F41 Fr48 [] wz) stable_ex, .val (ur35_0), .val (.int .i64 i42), .val (elp ur35_0 (i42.toNat * 32)), .val (.agg (idCells x49).toArray), .val (.bool (!decide (r48 = x49))), .val (.bool false), .val (.int .i64 i42), .val (.bool (decide (0 < i42))), .val (.bool true), .val (ur35_0), .val (.int .i64 i42), .val (.int .i64 (wr (i42 - 1))), .val (elp ur35_0 ((wr (i42 - 1)).toNat * 32)), .pred (fun v wz => Src tB F41 wz v x51) stable_src, .val (strV x51), .val (ur35_0), .val (.int .i64 i42), .val (elp ur35_0 (i42.toNat * 32)), .pred (fun v wz => Src tB F41 wz v x54) stable_src, .val (strV x54), .val (.bool (!sLt x51 x54)), .val (.bool (!sLt x51 x54))] Ty.mixed rfl rfl (by kernel_rfl) (by kernel_rfl) rfl
             ·refine ⟨?_, ?_, ?_, ?_, ?_, ?_, ?_, ?_, ?_, ?_, ?_, ?_, ?_, ?_, ?_, ?_, ?_, ?_, ?_, ?_, ?_, ?_, ?_, ?_, ?_, ?_, ?_, ?_, trivial⟩
              ·intro _ _ _ _;refine W_move rfl rfl ?_;exact Zs rfl rfl
              ·intro _ _ _ _;refine W_move rfl rfl ?_;exact Zs rfl rfl
              ·intro w100 vq100 hB100 hH100;have hS100 := hS41.below hB100;refine W_ix rfl Try.underlying52 Ty.cells25 Ty.info25 rfl rfl (he92.below hB100) hp92 rfl ?_;exact Zs rfl rfl
              ·intro w101 vq101 hB101 hH101;have hS101 := hS41.below hB101;refine W_ld1 0 rfl Ty.cell25 rfl (he92.below hB101) (by omega) rfl ?_;exact Zs rfl rfl
              ·intro w102 vq102 hB102 hH102;have hS102 := hS41.below hB102;refine W_bs0 (t := (tSl tB)) [[ue46]] [x45] rfl Try.underlying52 Ty.cells25 rfl rfl Ty.zero25 rfl (by simp [(hue46.ln).cells]) ⟨⟨_, rfl, hue46⟩, trivial⟩ rfl rfl hS102.agree ?_;intro u47 w47 hB47 hs47;refine W_nil ?_;exact N_step rfl hs47 hB47
              ·intro w103 vq103 hB103 hH103;obtain ⟨hp103_4, _⟩ := hH103;have hS103 := hS41.below hB103;refine W_call rfl Ty.named34 rfl (shaSum_ok (now_agree _) (hp103_4.now hS103.agree) hr48) ?_;rintro v104 w104 ⟨Fr48, rfl, hlr48_0, hT104⟩;refine W_nil ?_;exact N_step rfl ⟨F41, ⟨rfl, hlr48_0⟩, (St.from hS41.agree hB103).below hT104.below0⟩ hT104.below0
              ·intro _ _ _ _;refine W_move rfl rfl ?_;exact Zs rfl rfl
              ·intro _ _ _ _;refine W_move rfl rfl ?_;exact Zs rfl rfl
              ·intro w107 vq107 hB107 hH107;have hS107 := hS41.below hB107;refine W_ix rfl Try.underlying49 Ty.cells57 Ty.info57 rfl rfl (he93.below hB107) hp93 rfl ?_;exact Zs rfl rfl
              ·intro w108 vq108 hB108 hH108;have hS108 := hS41.below hB108;refine W_ldg 0 ((idCells x49)) rfl Ty.agg57 Ty.size57 rfl (he93.below hB108) (by omega) (fun q u h => sub_at (post := []) rfl h) ?_;exact Zs rfl rfl
              ·intro w109 vq109 hB109 hH109;obtain ⟨⟨Fr48, ⟨he109_5, hlr48_0⟩, hTcr48⟩, _, _⟩ := hH109;have hS109 := hS41.call hTcr48;have le109 := hTcr48.ext;refine W_eqv (t := 155) rfl he109_5 ?_;refine W_neqI rfl Try.underlying57 Try.underlying5 Ty.cells5 Ty.info5 (by kernel_rfl) rfl rfl hlr48_0 hle50 ?_;exact Zs rfl rfl
              ·intro w110 vq110 hB110 hH110;have hS110 := hS41.below hB110;refine W_move rfl rfl ?_;refine W_nil ?_;exact N_step rfl (congrArg Value.bool hb58) (Below.refl _ _)
              ·intro _ _ _ _;refine W_guard_yes rfl ?_;refine W_move rfl rfl ?_;exact Zs rfl rfl
              ·intro _ _ _ _;refine W_guard_yes rfl ?_;refine W_gtr rfl rfl rfl ?_;exact Zs rfl rfl
              ·intro w113 vq113 hB113 hH113;have hS113 := hS41.below hB113;refine W_guard_yes rfl ?_;refine W_move rfl rfl ?_;refine W_nil ?_;exact N_step rfl (congrArg Value.bool hb91) (Below.refl _ _)
              ·intro _ _ _ _;refine W_guard_yes rfl ?_;refine W_move rfl rfl ?_;exact Zs rfl rfl
              ·intro _ _ _ _;refine W_guard_yes rfl ?_;refine W_move rfl rfl ?_;exact Zs rfl rfl
              ·intro _ _ _ _;refine W_guard_yes rfl ?_;refine W_subi rfl rfl rfl rfl ?_;exact Zs rfl rfl
              ·intro w117 vq117 hB117 hH117;have hS117 := hS41.below hB117;refine W_guard_yes rfl ?_;refine W_ix rfl Try.underlying49 Ty.cells57 Ty.info57 rfl rfl (he95.below hB117) hp95 rfl ?_;exact Zs rfl rfl
              ·intro w118 vq118 hB118 hH118;have hS118 := hS41.below hB118;refine W_guard_yes rfl ?_;refine W_slR (F := F41) rfl Try.underlying57 Ty.info5 rfl (he95.below hB118) rfl hle52 ?_;intro q53 hv53;refine W_nil ?_;exact N_step rfl hv53 (Below.refl _ _)
              ·intro w119 vq119 hB119 hH119;obtain ⟨hp119_19, _, _⟩ := hH119;have hS119 := hS41.below hB119;refine W_guard_yes rfl ?_;refine W_bstr rfl Try.underlying25 Try.underlying5 Try.underlying9 rfl hp119_19 ?_;exact Zs rfl rfl
              ·intro _ _ _ _;refine W_guard_yes rfl ?_;refine W_move rfl rfl ?_;exact Zs rfl rfl
              ·intro _ _ _ _;refine W_guard_yes rfl ?_;refine W_move rfl rfl ?_;exact Zs rfl rfl
              ·intro w122 vq122 hB122 hH122;have hS122 := hS41.below hB122;refine W_guard_yes rfl ?_;refine W_ix rfl Try.underlying49 Ty.cells57 Ty.info57 rfl rfl (he97.below hB122) hp97 rfl ?_;exact Zs rfl rfl
              ·intro w123 vq123 hB123 hH123;have hS123 := hS41.below hB123;refine W_guard_yes rfl ?_;refine W_slR (F := F41) rfl Try.underlying57 Ty.info5 rfl (he97.below hB123) rfl hle55 ?_;intro q56 hv56;refine W_nil ?_;exact N_step rfl hv56 (Below.refl _ _)
              ·intro w124 vq124 hB124 hH124;obtain ⟨hp124_24, _, _⟩ := hH124;have hS124 := hS41.below hB124;refine W_guard_yes rfl ?_;refine W_bstr rfl Try.underlying25 Try.underlying5 Try.underlying9 rfl hp124_24 ?_;exact Zs rfl rfl
              ·intro _ _ _ _;refine W_guard_yes rfl ?_;refine W_geqS rfl rfl rfl ?_;exact Zs rfl rfl
              ·intro _ _ _ _;refine W_guard_yes rfl ?_;refine W_pick_t rfl rfl rfl ?_;exact Zs rfl rfl
             intro w127 vq127 hB127 hH127;obtain ⟨_, _, _, _, hp127_4, ⟨Fr48, ⟨he127_5, hlr48_0⟩, hTcr48⟩, _, _, _, _, _, _, _, _, _, _, _, _, _, hp127_19, _, _, _, _, hp127_24, _, _, _, _⟩ := hH127;have hS127 := hS41.call hTcr48;have le127 := hTcr48.ext;refine W_eqv (t := 155) rfl he127_5 ?_;refine W_pick_f rfl rfl rfl ?_;refine W_nil ?_;exact N_join _ ⟨rfl, Fr48, le127, hS127⟩ ⟨rfl, rfl, rfl, (look_bool rfl (by first | rfl | (rw [hb58, hb91]; first | done | rfl) | simp [hb58, hb91])), trivial⟩
            ·obtain ⟨hp128, hy128⟩ := ix_some hx45;obtain ⟨cs128, hr128, he128⟩ := hS41.rowAt (k := 1) rfl hy128;obtain ⟨ue46, rfl, hue46⟩ := hr128;replace he128 : El _ _ 1 _ _ := he128;obtain ⟨hp129, hy129⟩ := ix_some hx49;obtain ⟨cs129, hr129, he129⟩ := hS41.rowAt (k := 0) rfl hy129;obtain ⟨rfl, hle50⟩ := hr129;replace he129 : El _ _ 32 _ _ := he129
             apply C_draw 28 [[], [], [0, 1], [2], [3], [4], [], [], [6, 7], [8], [5, 9], [10], [11], [12, 11], [13, 11], [14], [14], [16, 14], [15, 17, 14], [18, 14], [19, 14], [14], [14], [21, 22, 14], [23, 14], [24, 14], [20, 25, 14], [14, 26, 11]] [.val (ur7_1), .val (.int .i64 i42), .val (elp ur7_1 (i42.toNat * 1)), .val (ue46), .pred (fun v wz => Src (tSl tB) F41 wz v [x45]) stable_src, .pred (fun v wz => ∃ Fr48, (v = .agg (idCells r48).toArray ∧ (r48).length = 32) ∧ St [] w41 F41 Fr48 [] wz) stable_ex, .val (ur35_0), .val (.int .i64 i42), .val (elp ur35_0 (i42.toNat * 32)), .val (.agg (idCells x49).toArray), .val (.bool (!decide (r48 = x49))), .val (.bool false), .val (.int .i64 i42), .val (.bool (decide (0 < i42))), .val (.bool false), .val undef, .val undef, .val undef, .val undef, .val undef, .val undef, .val undef, .val undef, .val undef, .val undef, .val undef, .val undef, .val (.bool false)] Ty.mixed rfl rfl (by kernel_rfl) (by kernel_rfl) rfl
             ·refine ⟨?_, ?_, ?_, ?_, ?_, ?_, ?_, ?_, ?_, ?_, ?_, ?_, ?_, ?_, ?_, ?_, ?_, ?_, ?_, ?_, ?_, ?_, ?_, ?_, ?_, ?_, ?_, ?_, trivial⟩
              ·intro _ _ _ _;refine W_move rfl rfl ?_;exact Zs rfl rfl
              ·intro _ _ _ _;refine W_move rfl rfl ?_;exact Zs rfl rfl
              ·intro w132 vq132 hB132 hH132;have hS132 := hS41.below hB132;refine W_ix rfl Try.underlying52 Ty.cells25 Ty.info25 rfl rfl (he128.below hB132) hp128 rfl ?_;exact Zs rfl rfl
              ·intro w133 vq133 hB133 hH133;have hS133 := hS41.below hB133;refine W_ld1 0 rfl Ty.cell25 rfl (he128.below hB133) (by omega) rfl ?_;exact Zs rfl rfl
              ·intro w134 vq134 hB134 hH134;have hS134 := hS41.below hB134;refine W_bs0 (t := (tSl tB)) [[ue46]] [x45] rfl Try.underlying52 Ty.cells25 rfl rfl Ty.zero25 rfl (by simp [(hue46.ln).cells]) ⟨⟨_, rfl, hue46⟩, trivial⟩ rfl rfl hS134.agree ?_;intro u47 w47 hB47 hs47;refine W_nil ?_;exact N_step rfl hs47 hB47
              ·intro w135 vq135 hB135 hH135;obtain ⟨hp135_4, _⟩ := hH135;have hS135 := hS41.below hB135;refine W_call rfl Ty.named34 rfl (shaSum_ok (now_agree _) (hp135_4.now hS135.agree) hr48) ?_;rintro v136 w136 ⟨Fr48, rfl, hlr48_0, hT136⟩;refine W_nil ?_;exact N_step rfl ⟨F41, ⟨rfl, hlr48_0⟩, (St.from hS41.agree hB135).below hT136.below0⟩ hT136.below0
              ·intro _ _ _ _;refine W_move rfl rfl ?_;exact Zs rfl rfl
              ·intro _ _ _ _;refine W_move rfl rfl ?_;exact Zs rfl rfl
              ·intro w139 vq139 hB139 hH139;have hS139 := hS41.below hB139;refine W_ix rfl Try.underlying49 Ty.cells57 Ty.info57 rfl rfl (he129.below hB139) hp129 rfl ?_;exact Zs rfl rfl
              ·intro w140 vq140 hB140 hH140;have hS140 := hS41.below hB140;refine W_ldg 0 ((idCells x49)) rfl Ty.agg57 Ty.size57 rfl (he129.below hB140) (by omega) (fun q u h => sub_at (post := []) rfl h) ?_;exact Zs rfl rfl
              ·intro w141 vq141 hB141 hH141;obtain ⟨⟨Fr48, ⟨he141_5, hlr48_0⟩, hTcr48⟩, _, _⟩ := hH141;have hS141 := hS41.call hTcr48;have le141 := hTcr48.ext;refine W_eqv (t := 155) rfl he141_5 ?_;refine W_neqI rfl Try.underlying57 Try.underlying5 Ty.cells5 Ty.info5 (by kernel_rfl) rfl rfl hlr48_0 hle50 ?_;exact Zs rfl rfl
              ·intro w142 vq142 hB142 hH142;have hS142 := hS41.below hB142;refine W_move rfl rfl ?_;refine W_nil ?_;exact N_step rfl (congrArg Value.bool hb58) (Below.refl _ _)
              ·intro _ _ _ _;refine W_guard_yes rfl ?_;refine W_move rfl rfl ?_;exact Zs rfl rfl
              ·intro _ _ _ _;refine W_guard_yes rfl ?_;refine W_gtr rfl rfl rfl ?_;exact Zs rfl rfl
              ·intro w145 vq145 hB145 hH145;have hS145 := hS41.below hB145;refine W_guard_yes rfl ?_;refine W_move rfl rfl ?_;refine W_nil ?_;exact N_step rfl (congrArg Value.bool hb91) (Below.refl _ _)
              ·intro _ _ _ _;refine W_guard_no rfl rfl rfl rfl rfl ?_;exact Zs rfl rfl
              ·intro _ _ _ _;refine W_guard_no rfl rfl rfl rfl rfl ?_;exact Zs rfl rfl
              ·intro _ _ _ _;refine W_guard_no rfl rfl rfl rfl rfl ?_;exact Zs rfl rfl
              ·intro _ _ _ _;refine W_guard_no rfl rfl rfl rfl rfl ?_;exact Zs rfl rfl
              ·intro _ _ _ _;refine W_guard_no rfl rfl rfl rfl rfl ?_;exact Zs rfl rfl
              ·intro _ _ _ _;refine W_guard_no rfl rfl rfl rfl rfl ?_;exact Zs rfl rfl
              ·intro _ _ _ _;refine W_guard_no rfl rfl rfl rfl rfl ?_;exact Zs rfl rfl
              ·intro _ _ _ _;refine W_guard_no rfl rfl rfl rfl rfl ?_;exact Zs rfl rfl
              ·intro _ _ _ _;refine W_guard_no rfl rfl rfl rfl rfl ?_;exact Zs rfl rfl
              ·intro _ _ _ _;refine W_guard_no rfl rfl rfl rfl rfl ?_;exact Zs rfl rfl
              ·intro _ _ _ _;refine W_guard_no rfl rfl rfl rfl rfl ?_;exact Zs rfl rfl
              ·intro _ _ _ _;refine W_guard_no rfl rfl rfl rfl rfl ?_;exact Zs rfl rfl
              ·intro _ _ _ _;refine W_guard_yes rfl ?_;refine W_pick_f rfl rfl rfl ?_;exact Zs rfl rfl
             intro w159 vq159 hB159 hH159;obtain ⟨_, _, _, _, hp159_4, ⟨Fr48, ⟨he159_5, hlr48_0⟩, hTcr48⟩, _, _, _, _, _, _, _, _, _, _, _, _, _, _, _, _, _, _, _, _, _, _, _⟩ := hH159;have hS159 := hS41.call hTcr48;have le159 := hTcr48.ext;refine W_eqv (t := 155) rfl he159_5 ?_;refine W_pick_f rfl rfl rfl ?_;refine W_nil ?_;exact N_join _ ⟨rfl, Fr48, le159, hS159⟩ ⟨rfl, rfl, rfl, (look_bool rfl (by first | rfl | (rw [hb58, hb91]; first | done | rfl) | simp [hb58, hb91])), trivial⟩
          rintro E w57 ⟨rfl, F57, le57, hS57⟩;refine N_code ?_;refine C_cond rfl (fun hc160 => ?_) (fun hc160 => ?_)
          ·rw [if_t hc160] at H;refine C_seq ?_;refine C_region ?_;refine W_assign rfl rfl ?_;refine W_nil ?_;refine N_code ?_;obtain rfl := Option.some.inj H;refine C_ret rfl rfl ?_;exact ⟨F57, rfl, hS57.pick [] (by decide)⟩
          ·rw [if_f hc160] at H;refine C_skip ?_;refine N_block ?_;refine N_code ?_;refine C_region ?_;refine W_move rfl rfl ?_;refine W_add rfl rfl rfl rfl ?_;refine W_assign rfl rfl ?_;refine W_nil ?_;exact N_againM (wr (i42 + 1)) _ H ⟨F57, rfl, (le41.trans le57), hS57⟩ ⟨rfl, rfl, rfl, trivial⟩
         ·rw [if_f hc44] at H;refine C_exit _ rfl ?_;exact N_join _ ⟨H, ⟨F41, rfl, le41, hS41.pick [] (by decide)⟩⟩ trivial
       ·rintro E w38 ⟨H, F38, rfl, le38, hS38⟩;dsimp only [cellarerlaw17_ManifestIds.k2] at H;refine C_seq ?_;obtain ⟨r39, hr39, H⟩ := bd_some H;refine C_region ?_;refine W_call rfl Ty.named31 rfl (cellarerlaw17_wakes_ok hS38.agree hr39) ?_;rintro v40 w40 ⟨Fr39, rfl, hT40⟩;have hS40 := hS38.lent hT40;refine W_assign rfl rfl ?_;refine W_nil ?_;refine N_code ?_;obtain rfl := Option.some.inj H;refine C_ret rfl rfl ?_;exact ⟨F38, rfl, hS40⟩

end
end Go.Wk.Lf
