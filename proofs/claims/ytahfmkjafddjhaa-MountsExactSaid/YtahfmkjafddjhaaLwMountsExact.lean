import Derived.Test.YtahfmkjafddjhaaMfB
namespace Go.Wk.Lf
open Go.Proofs Go.RowKit
set_option linter.unusedVariables false
set_option linter.unusedSimpArgs false

def cellarerlaw22_MountsExact (x0 : List Int) (x1 : List Read) : Option Bool :=
  if (decide (20 < (x0.length : Int)) || decide (60 < (x1.length : Int))) then
    some true
  else
    bd (cellarerkeep_TwinInts x0) fun r4 =>
    bd (app (α := Read) [] x1) fun l6 =>
    bd (mounts_Moves r4 l6) fun r9 =>
    bd (cellarerref20_Drives x0 x1) fun r11 =>
    bd (cellarerref20_Vols x1) fun r13 =>
    bd (only (decide (r9.2 = r11.2)) (cellarerkeep_Moves r9.1 r11.1) false) fun r15 =>
    bd (only (decide (r9.2 = r11.2) && r15) (cellarerkeep_Ints r4 x0) false) fun r16 =>
    bd (only ((decide (r9.2 = r11.2) && r15) && r16) (cellarerkeep_Reads l6 x1) false) fun r17 =>
    bd (only (((decide (r9.2 = r11.2) && r15) && r16) && r17) (mounts_Bound l6) 0) fun r18 =>
    bd (only ((((decide (r9.2 = r11.2) && r15) && r16) && r17) && decide (r18 = wr ((x1.length : Int) + (r13.length : Int)))) (cellarerlaw22_wakes) false) fun r19 =>
    some (((((decide (r9.2 = r11.2) && r15) && r16) && r17) && decide (r18 = wr ((x1.length : Int) + (r13.length : Int)))) && r19)

theorem cellarerlaw22_MountsExact_ok {F : Frz} {w : World} {x0 : List Int} {x1 : List Read} {r : Bool} {v0 : Value} {v1 : Value} (hA : Agree F w.heap) (h0 : SlF tI F v0 x0) (h1 : SlF Read.t F v1 x1) (H : cellarerlaw22_MountsExact x0 x1 = some r) : Ret Try.prog 3 #[v0, v1] w fun v w' => ∃ (F' : Frz), v = .bool r ∧ St [] w F F' [] w' := by
 refine Ret_of (args := [v0, v1]) Go.Proofs.Try.func3 rfl rfl ?_
 change C _ _ _ _ [(0, v0), (1, v1)] _
 have hS := St.entry hA
 dsimp only [cellarerlaw22_MountsExact] at H
 refine C_seq ?_
 refine C_region ?_
 refine W_assign rfl rfl ?_
 refine W_nil ?_
 refine N_code ?_
 refine C_seq ?_
 refine C_seq ?_
 refine C_join (fun E wq => E = [(0, v0), (1, v1), (19, .bool (decide (20 < (x0.length : Int)) || decide (60 < (x1.length : Int))))] ∧ ∃ F1 : Frz, F.le F1 ∧ St [] w F F1 [] wq) ?_ ?_
 ·
  rcases Bool.eq_false_or_eq_true (decide (20 < (x0.length : Int))) with hb2 | hb2
  ·
   refine C_region ?_
   refine W_move rfl rfl ?_
   refine W_lenv rfl Go.Proofs.Try.underlying22 rfl h0.ln ?_
   refine W_gtr rfl rfl rfl ?_
   refine W_move rfl rfl ?_
   refine W_known (t := 15) true rfl hb2 ?_
   refine W_guard_no rfl rfl rfl rfl rfl ?_
   refine W_guard_no rfl rfl rfl rfl rfl ?_
   refine W_guard_no rfl rfl rfl rfl rfl ?_
   refine W_pick_t rfl rfl rfl ?_
   refine W_nil ?_
   exact N_join _ ⟨rfl, F, (Frz.le.refl _), hS⟩ ⟨rfl, rfl, (look_bool rfl (by first | rfl | (rw [hb2]; first | done | rfl) | simp [hb2])), trivial⟩
  ·
   refine C_region ?_
   refine W_move rfl rfl ?_
   refine W_lenv rfl Go.Proofs.Try.underlying22 rfl h0.ln ?_
   refine W_gtr rfl rfl rfl ?_
   refine W_move rfl rfl ?_
   refine W_known (t := 15) false rfl hb2 ?_
   refine W_guard_yes rfl ?_
   refine W_move rfl rfl ?_
   refine W_guard_yes rfl ?_
   refine W_lenv rfl Go.Proofs.Try.underlying23 rfl h1.ln ?_
   refine W_guard_yes rfl ?_
   refine W_gtr rfl rfl rfl ?_
   refine W_pick_f rfl rfl rfl ?_
   refine W_nil ?_
   exact N_join _ ⟨rfl, F, (Frz.le.refl _), hS⟩ ⟨rfl, rfl, (look_bool rfl (by first | rfl | (rw [hb2]; first | done | rfl) | simp [hb2])), trivial⟩
 rintro E w1 ⟨rfl, F1, le1, hS1⟩
 refine N_code ?_
 refine C_cond rfl (fun hc3 => ?_) (fun hc3 => ?_)
 ·
  rw [if_t hc3] at H
  refine C_seq ?_
  refine C_region ?_
  refine W_assign rfl rfl ?_
  refine W_nil ?_
  refine N_code ?_
  obtain rfl := Option.some.inj H
  refine C_ret rfl rfl ?_
  exact ⟨F1, rfl, hS1⟩
 ·
  rw [if_f hc3] at H
  refine C_skip ?_
  refine N_code ?_
  refine C_seq ?_
  obtain ⟨r4, hr4, H⟩ := bd_some H
  refine C_region ?_
  refine W_move rfl rfl ?_
  refine W_call rfl Ty.named15 rfl (cellarerkeep_TwinInts_ok hS1.agree (h0.mono le1) hr4) ?_
  rintro ur4_0 w5 ⟨Fr4, _, rfl, hT5⟩
  have hS5 := hS1.call hT5
  have ler4 := hT5.ext
  refine W_assign rfl rfl ?_
  refine W_nil ?_
  refine N_code ?_
  refine C_seq ?_
  refine C_region ?_
  refine W_assign rfl rfl ?_
  refine W_nil ?_
  refine N_code ?_
  refine C_seq ?_
  obtain ⟨l6, hl6, H⟩ := bd_some H
  refine C_region ?_
  refine W_move rfl rfl ?_
  refine W_move rfl rfl ?_
  have hS8 := hS5.nilRow Read.t 39
  refine W_appM 0 rfl Go.Proofs.Try.underlying23 Ty.row39 rfl rfl rfl rfl rfl hS8 rfl ((h1.mono (le1.trans ler4)).src hS8.agree) hl6 ?_
  intro v7 w7 hS7
  refine W_assign rfl rfl ?_
  refine W_nil ?_
  refine N_code ?_
  refine C_seq ?_
  obtain ⟨r9, hr9, H⟩ := bd_some H
  refine C_region ?_
  refine W_move rfl rfl ?_
  refine W_move rfl rfl ?_
  refine W_call rfl Ty.named16 rfl (mounts_Moves_ok (now_agree _) (hS7.rowNow (k := 1) rfl) (hS7.rowNow (k := 0) rfl) hr9) ?_
  rintro v10 w10 ⟨Fr9, ur9_0, rfl, hT10⟩
  have hS10 := hS7.lentFlat hT10 ⟨fun h => h, trivial⟩
  refine W_move rfl rfl ?_
  refine W_extract rfl rfl rfl ?_
  refine W_extract rfl rfl rfl ?_
  refine W_assign rfl rfl ?_
  refine W_assign rfl rfl ?_
  refine W_nil ?_
  refine N_code ?_
  refine C_seq ?_
  obtain ⟨r11, hr11, H⟩ := bd_some H
  refine C_region ?_
  refine W_move rfl rfl ?_
  refine W_move rfl rfl ?_
  refine W_call rfl Ty.named17 rfl (cellarerref20_Drives_ok hS10.agree (h0.mono (le1.trans ler4)) (h1.mono (le1.trans ler4)) hr11) ?_
  rintro v12 w12 ⟨Fr11, ur11_0, rfl, hT12⟩
  have hS12 := hS10.call hT12
  have ler11 := hT12.ext
  refine W_move rfl rfl ?_
  refine W_extract rfl rfl rfl ?_
  refine W_extract rfl rfl rfl ?_
  refine W_assign rfl rfl ?_
  refine W_assign rfl rfl ?_
  refine W_nil ?_
  refine N_code ?_
  refine C_seq ?_
  obtain ⟨r13, hr13, H⟩ := bd_some H
  refine C_region ?_
  refine W_move rfl rfl ?_
  refine W_lenv rfl Go.Proofs.Try.underlying23 rfl h1.ln ?_
  refine W_move rfl rfl ?_
  refine W_call rfl Ty.named18 rfl (cellarerref20_Vols_ok hS12.agree (h1.mono ((le1.trans ler4).trans ler11)) hr13) ?_
  rintro ur13_0 w14 ⟨Fr13, _, rfl, hT14⟩
  have hS14 := hS12.call hT14
  have ler13 := hT14.ext
  refine W_lenv rfl Go.Proofs.Try.underlying22 rfl (hS14.rowLn (k := 0) rfl) ?_
  refine W_add rfl rfl rfl rfl ?_
  refine W_assign rfl rfl ?_
  refine W_nil ?_
  refine N_code ?_
  refine C_seq ?_
  obtain ⟨r15, hr15, H⟩ := bd_some H
  obtain ⟨r16, hr16, H⟩ := bd_some H
  obtain ⟨r17, hr17, H⟩ := bd_some H
  obtain ⟨r18, hr18, H⟩ := bd_some H
  obtain ⟨r19, hr19, H⟩ := bd_some H
  refine C_join (fun E wq => E = [(4, .bool (((((decide (r9.2 = r11.2) && r15) && r16) && r17) && decide (r18 = wr ((x1.length : Int) + (r13.length : Int)))) && r19))] ∧ ∃ F20 : Frz, Fr13.le F20 ∧ St [] w F F20 [.row tI 3 ur13_0 r13, .row Move.t 42 ur11_0 r11.1, .row Move.t 42 ur9_0 r9.1, .row Read.t 39 v7 l6, .row tI 3 ur4_0 r4] wq) ?_ ?_
  ·
   rcases Bool.eq_false_or_eq_true (decide (r9.2 = r11.2)) with hb21 | hb21
   ·
    rcases Bool.eq_false_or_eq_true r15 with hb22 | hb22
    ·
     rcases Bool.eq_false_or_eq_true r16 with hb23 | hb23
     ·
      rcases Bool.eq_false_or_eq_true r17 with hb24 | hb24
      ·
       rcases Bool.eq_false_or_eq_true (decide (r18 = wr ((x1.length : Int) + (r13.length : Int)))) with hb25 | hb25
       ·
        refine C_region ?_
        refine W_move rfl rfl ?_
        refine W_move rfl rfl ?_
        refine W_eql rfl rfl rfl ?_
        refine W_move rfl rfl ?_
        refine W_known (t := 46) true rfl hb21 ?_
        refine W_guard_yes rfl ?_
        refine W_move rfl rfl ?_
        refine W_guard_yes rfl ?_
        refine W_move rfl rfl ?_
        refine W_guard_yes rfl ?_
        have hy26 := hr15
        rw [only_t hb21] at hy26
        refine W_call rfl Ty.named19 rfl (cellarerkeep_Moves_ok (now_agree _) (hS14.rowNow (k := 2) rfl) (hS14.rowNow (k := 1) rfl) hy26) ?_
        rintro v27 w27 ⟨Fr15, rfl, hT27⟩
        have hS27 := hS14.lent hT27
        refine W_pick_t rfl rfl rfl ?_
        refine W_move rfl rfl ?_
        refine W_known (t := 51) true rfl hb22 ?_
        refine W_guard_yes rfl ?_
        refine W_move rfl rfl ?_
        refine W_guard_yes rfl ?_
        refine W_move rfl rfl ?_
        refine W_guard_yes rfl ?_
        have hy28 := hr16
        rw [only_t (by first | rfl | (rw [hb21, hb22]; first | done | rfl) | simp [hb21, hb22, hb23, hb24, hb25])] at hy28
        refine W_call rfl Ty.named20 rfl (cellarerkeep_Ints_ok (now_agree _) (hS27.rowNow (k := 4) rfl) ((h0.mono (((le1.trans ler4).trans ler11).trans ler13)).mono hS27.agree) hy28) ?_
        rintro v29 w29 ⟨Fr16, rfl, hT29⟩
        have hS29 := hS27.lent hT29
        refine W_pick_t rfl rfl rfl ?_
        refine W_move rfl rfl ?_
        refine W_known (t := 56) true rfl hb23 ?_
        refine W_guard_yes rfl ?_
        refine W_move rfl rfl ?_
        refine W_guard_yes rfl ?_
        refine W_move rfl rfl ?_
        refine W_guard_yes rfl ?_
        have hy30 := hr17
        rw [only_t (by first | rfl | (rw [hb21, hb22, hb23]; first | done | rfl) | simp [hb21, hb22, hb23, hb24, hb25])] at hy30
        refine W_call rfl Ty.named21 rfl (cellarerkeep_Reads_ok (now_agree _) (hS29.rowNow (k := 3) rfl) ((h1.mono (((le1.trans ler4).trans ler11).trans ler13)).mono hS29.agree) hy30) ?_
        rintro v31 w31 ⟨Fr17, rfl, hT31⟩
        have hS31 := hS29.lent hT31
        refine W_pick_t rfl rfl rfl ?_
        refine W_move rfl rfl ?_
        refine W_known (t := 61) true rfl hb24 ?_
        refine W_guard_yes rfl ?_
        refine W_move rfl rfl ?_
        refine W_guard_yes rfl ?_
        have hy32 := hr18
        rw [only_t (by first | rfl | (rw [hb21, hb22, hb23, hb24]; first | done | rfl) | simp [hb21, hb22, hb23, hb24, hb25])] at hy32
        refine W_call rfl Ty.named22 rfl (mounts_Bound_ok (now_agree _) (hS31.rowNow (k := 3) rfl) hy32) ?_
        rintro v33 w33 ⟨Fr18, rfl, hT33⟩
        have hS33 := hS31.lent hT33
        refine W_guard_yes rfl ?_
        refine W_move rfl rfl ?_
        refine W_guard_yes rfl ?_
        refine W_eql rfl rfl rfl ?_
        refine W_pick_t rfl rfl rfl ?_
        refine W_move rfl rfl ?_
        refine W_known (t := 67) true rfl hb25 ?_
        refine W_guard_yes rfl ?_
        have hy34 := hr19
        rw [only_t (by first | rfl | (rw [hb25, hb21, hb22, hb23, hb24]; first | done | rfl) | simp [hb21, hb22, hb23, hb24, hb25])] at hy34
        refine W_call rfl Ty.named23 rfl (cellarerlaw22_wakes_ok hS33.agree hy34) ?_
        rintro v35 w35 ⟨Fr19, rfl, hT35⟩
        have hS35 := hS33.lent hT35
        refine W_pick_t rfl rfl rfl ?_
        refine W_assign rfl rfl ?_
        refine W_nil ?_
        exact N_join _ ⟨rfl, Fr13, (Frz.le.refl _), hS35⟩ ⟨(look_bool rfl (by first | rfl | (rw [hb25, hb21, hb22, hb23, hb24]; first | done | rfl) | simp [hb21, hb22, hb23, hb24, hb25])), trivial⟩
       ·
        refine C_region ?_
        refine W_move rfl rfl ?_
        refine W_move rfl rfl ?_
        refine W_eql rfl rfl rfl ?_
        refine W_move rfl rfl ?_
        refine W_known (t := 46) true rfl hb21 ?_
        refine W_guard_yes rfl ?_
        refine W_move rfl rfl ?_
        refine W_guard_yes rfl ?_
        refine W_move rfl rfl ?_
        refine W_guard_yes rfl ?_
        have hy36 := hr15
        rw [only_t hb21] at hy36
        refine W_call rfl Ty.named19 rfl (cellarerkeep_Moves_ok (now_agree _) (hS14.rowNow (k := 2) rfl) (hS14.rowNow (k := 1) rfl) hy36) ?_
        rintro v37 w37 ⟨Fr15, rfl, hT37⟩
        have hS37 := hS14.lent hT37
        refine W_pick_t rfl rfl rfl ?_
        refine W_move rfl rfl ?_
        refine W_known (t := 51) true rfl hb22 ?_
        refine W_guard_yes rfl ?_
        refine W_move rfl rfl ?_
        refine W_guard_yes rfl ?_
        refine W_move rfl rfl ?_
        refine W_guard_yes rfl ?_
        have hy38 := hr16
        rw [only_t (by first | rfl | (rw [hb21, hb22]; first | done | rfl) | simp [hb21, hb22, hb23, hb24, hb25])] at hy38
        refine W_call rfl Ty.named20 rfl (cellarerkeep_Ints_ok (now_agree _) (hS37.rowNow (k := 4) rfl) ((h0.mono (((le1.trans ler4).trans ler11).trans ler13)).mono hS37.agree) hy38) ?_
        rintro v39 w39 ⟨Fr16, rfl, hT39⟩
        have hS39 := hS37.lent hT39
        refine W_pick_t rfl rfl rfl ?_
        refine W_move rfl rfl ?_
        refine W_known (t := 56) true rfl hb23 ?_
        refine W_guard_yes rfl ?_
        refine W_move rfl rfl ?_
        refine W_guard_yes rfl ?_
        refine W_move rfl rfl ?_
        refine W_guard_yes rfl ?_
        have hy40 := hr17
        rw [only_t (by first | rfl | (rw [hb21, hb22, hb23]; first | done | rfl) | simp [hb21, hb22, hb23, hb24, hb25])] at hy40
        refine W_call rfl Ty.named21 rfl (cellarerkeep_Reads_ok (now_agree _) (hS39.rowNow (k := 3) rfl) ((h1.mono (((le1.trans ler4).trans ler11).trans ler13)).mono hS39.agree) hy40) ?_
        rintro v41 w41 ⟨Fr17, rfl, hT41⟩
        have hS41 := hS39.lent hT41
        refine W_pick_t rfl rfl rfl ?_
        refine W_move rfl rfl ?_
        refine W_known (t := 61) true rfl hb24 ?_
        refine W_guard_yes rfl ?_
        refine W_move rfl rfl ?_
        refine W_guard_yes rfl ?_
        have hy42 := hr18
        rw [only_t (by first | rfl | (rw [hb21, hb22, hb23, hb24]; first | done | rfl) | simp [hb21, hb22, hb23, hb24, hb25])] at hy42
        refine W_call rfl Ty.named22 rfl (mounts_Bound_ok (now_agree _) (hS41.rowNow (k := 3) rfl) hy42) ?_
        rintro v43 w43 ⟨Fr18, rfl, hT43⟩
        have hS43 := hS41.lent hT43
        refine W_guard_yes rfl ?_
        refine W_move rfl rfl ?_
        refine W_guard_yes rfl ?_
        refine W_eql rfl rfl rfl ?_
        refine W_pick_t rfl rfl rfl ?_
        refine W_move rfl rfl ?_
        refine W_known (t := 67) false rfl hb25 ?_
        refine W_guard_no rfl rfl rfl rfl rfl ?_
        refine W_pick_f rfl rfl rfl ?_
        refine W_assign rfl rfl ?_
        refine W_nil ?_
        exact N_join _ ⟨rfl, Fr13, (Frz.le.refl _), hS43⟩ ⟨(look_bool rfl (by first | rfl | (rw [hb25, hb21, hb22, hb23, hb24]; first | done | rfl) | simp [hb21, hb22, hb23, hb24, hb25])), trivial⟩
      ·
       refine C_region ?_
       refine W_move rfl rfl ?_
       refine W_move rfl rfl ?_
       refine W_eql rfl rfl rfl ?_
       refine W_move rfl rfl ?_
       refine W_known (t := 46) true rfl hb21 ?_
       refine W_guard_yes rfl ?_
       refine W_move rfl rfl ?_
       refine W_guard_yes rfl ?_
       refine W_move rfl rfl ?_
       refine W_guard_yes rfl ?_
       have hy44 := hr15
       rw [only_t hb21] at hy44
       refine W_call rfl Ty.named19 rfl (cellarerkeep_Moves_ok (now_agree _) (hS14.rowNow (k := 2) rfl) (hS14.rowNow (k := 1) rfl) hy44) ?_
       rintro v45 w45 ⟨Fr15, rfl, hT45⟩
       have hS45 := hS14.lent hT45
       refine W_pick_t rfl rfl rfl ?_
       refine W_move rfl rfl ?_
       refine W_known (t := 51) true rfl hb22 ?_
       refine W_guard_yes rfl ?_
       refine W_move rfl rfl ?_
       refine W_guard_yes rfl ?_
       refine W_move rfl rfl ?_
       refine W_guard_yes rfl ?_
       have hy46 := hr16
       rw [only_t (by first | rfl | (rw [hb21, hb22]; first | done | rfl) | simp [hb21, hb22, hb23, hb24])] at hy46
       refine W_call rfl Ty.named20 rfl (cellarerkeep_Ints_ok (now_agree _) (hS45.rowNow (k := 4) rfl) ((h0.mono (((le1.trans ler4).trans ler11).trans ler13)).mono hS45.agree) hy46) ?_
       rintro v47 w47 ⟨Fr16, rfl, hT47⟩
       have hS47 := hS45.lent hT47
       refine W_pick_t rfl rfl rfl ?_
       refine W_move rfl rfl ?_
       refine W_known (t := 56) true rfl hb23 ?_
       refine W_guard_yes rfl ?_
       refine W_move rfl rfl ?_
       refine W_guard_yes rfl ?_
       refine W_move rfl rfl ?_
       refine W_guard_yes rfl ?_
       have hy48 := hr17
       rw [only_t (by first | rfl | (rw [hb21, hb22, hb23]; first | done | rfl) | simp [hb21, hb22, hb23, hb24])] at hy48
       refine W_call rfl Ty.named21 rfl (cellarerkeep_Reads_ok (now_agree _) (hS47.rowNow (k := 3) rfl) ((h1.mono (((le1.trans ler4).trans ler11).trans ler13)).mono hS47.agree) hy48) ?_
       rintro v49 w49 ⟨Fr17, rfl, hT49⟩
       have hS49 := hS47.lent hT49
       refine W_pick_t rfl rfl rfl ?_
       refine W_move rfl rfl ?_
       refine W_known (t := 61) false rfl hb24 ?_
       refine W_guard_no rfl rfl rfl rfl rfl ?_
       refine W_guard_no rfl rfl rfl rfl rfl ?_
       refine W_guard_no rfl rfl rfl rfl rfl ?_
       refine W_guard_no rfl rfl rfl rfl rfl ?_
       refine W_pick_f rfl rfl rfl ?_
       refine W_move rfl rfl ?_
       refine W_guard_no rfl rfl rfl rfl rfl ?_
       refine W_pick_f rfl rfl rfl ?_
       refine W_assign rfl rfl ?_
       refine W_nil ?_
       exact N_join _ ⟨rfl, Fr13, (Frz.le.refl _), hS49⟩ ⟨(look_bool rfl (by first | rfl | (rw [hb21, hb22, hb23, hb24]; first | done | rfl) | simp [hb21, hb22, hb23, hb24])), trivial⟩
     ·
      refine C_region ?_
      refine W_move rfl rfl ?_
      refine W_move rfl rfl ?_
      refine W_eql rfl rfl rfl ?_
      refine W_move rfl rfl ?_
      refine W_known (t := 46) true rfl hb21 ?_
      refine W_guard_yes rfl ?_
      refine W_move rfl rfl ?_
      refine W_guard_yes rfl ?_
      refine W_move rfl rfl ?_
      refine W_guard_yes rfl ?_
      have hy50 := hr15
      rw [only_t hb21] at hy50
      refine W_call rfl Ty.named19 rfl (cellarerkeep_Moves_ok (now_agree _) (hS14.rowNow (k := 2) rfl) (hS14.rowNow (k := 1) rfl) hy50) ?_
      rintro v51 w51 ⟨Fr15, rfl, hT51⟩
      have hS51 := hS14.lent hT51
      refine W_pick_t rfl rfl rfl ?_
      refine W_move rfl rfl ?_
      refine W_known (t := 51) true rfl hb22 ?_
      refine W_guard_yes rfl ?_
      refine W_move rfl rfl ?_
      refine W_guard_yes rfl ?_
      refine W_move rfl rfl ?_
      refine W_guard_yes rfl ?_
      have hy52 := hr16
      rw [only_t (by first | rfl | (rw [hb21, hb22]; first | done | rfl) | simp [hb21, hb22, hb23])] at hy52
      refine W_call rfl Ty.named20 rfl (cellarerkeep_Ints_ok (now_agree _) (hS51.rowNow (k := 4) rfl) ((h0.mono (((le1.trans ler4).trans ler11).trans ler13)).mono hS51.agree) hy52) ?_
      rintro v53 w53 ⟨Fr16, rfl, hT53⟩
      have hS53 := hS51.lent hT53
      refine W_pick_t rfl rfl rfl ?_
      refine W_move rfl rfl ?_
      refine W_known (t := 56) false rfl hb23 ?_
      refine W_guard_no rfl rfl rfl rfl rfl ?_
      refine W_guard_no rfl rfl rfl rfl rfl ?_
      refine W_guard_no rfl rfl rfl rfl rfl ?_
      refine W_pick_f rfl rfl rfl ?_
      refine W_move rfl rfl ?_
      refine W_guard_no rfl rfl rfl rfl rfl ?_
      refine W_guard_no rfl rfl rfl rfl rfl ?_
      refine W_guard_no rfl rfl rfl rfl rfl ?_
      refine W_guard_no rfl rfl rfl rfl rfl ?_
      refine W_pick_f rfl rfl rfl ?_
      refine W_move rfl rfl ?_
      refine W_guard_no rfl rfl rfl rfl rfl ?_
      refine W_pick_f rfl rfl rfl ?_
      refine W_assign rfl rfl ?_
      refine W_nil ?_
      exact N_join _ ⟨rfl, Fr13, (Frz.le.refl _), hS53⟩ ⟨(look_bool rfl (by first | rfl | (rw [hb21, hb22, hb23]; first | done | rfl) | simp [hb21, hb22, hb23])), trivial⟩
    ·
     refine C_region ?_
     refine W_move rfl rfl ?_
     refine W_move rfl rfl ?_
     refine W_eql rfl rfl rfl ?_
     refine W_move rfl rfl ?_
     refine W_known (t := 46) true rfl hb21 ?_
     refine W_guard_yes rfl ?_
     refine W_move rfl rfl ?_
     refine W_guard_yes rfl ?_
     refine W_move rfl rfl ?_
     refine W_guard_yes rfl ?_
     have hy54 := hr15
     rw [only_t hb21] at hy54
     refine W_call rfl Ty.named19 rfl (cellarerkeep_Moves_ok (now_agree _) (hS14.rowNow (k := 2) rfl) (hS14.rowNow (k := 1) rfl) hy54) ?_
     rintro v55 w55 ⟨Fr15, rfl, hT55⟩
     have hS55 := hS14.lent hT55
     refine W_pick_t rfl rfl rfl ?_
     refine W_move rfl rfl ?_
     refine W_known (t := 51) false rfl hb22 ?_
     refine W_guard_no rfl rfl rfl rfl rfl ?_
     refine W_guard_no rfl rfl rfl rfl rfl ?_
     refine W_guard_no rfl rfl rfl rfl rfl ?_
     refine W_pick_f rfl rfl rfl ?_
     refine W_move rfl rfl ?_
     refine W_guard_no rfl rfl rfl rfl rfl ?_
     refine W_guard_no rfl rfl rfl rfl rfl ?_
     refine W_guard_no rfl rfl rfl rfl rfl ?_
     refine W_pick_f rfl rfl rfl ?_
     refine W_move rfl rfl ?_
     refine W_guard_no rfl rfl rfl rfl rfl ?_
     refine W_guard_no rfl rfl rfl rfl rfl ?_
     refine W_guard_no rfl rfl rfl rfl rfl ?_
     refine W_guard_no rfl rfl rfl rfl rfl ?_
     refine W_pick_f rfl rfl rfl ?_
     refine W_move rfl rfl ?_
     refine W_guard_no rfl rfl rfl rfl rfl ?_
     refine W_pick_f rfl rfl rfl ?_
     refine W_assign rfl rfl ?_
     refine W_nil ?_
     exact N_join _ ⟨rfl, Fr13, (Frz.le.refl _), hS55⟩ ⟨(look_bool rfl (by first | rfl | (rw [hb21, hb22]; first | done | rfl) | simp [hb21, hb22])), trivial⟩
   ·
    refine C_region ?_
    refine W_move rfl rfl ?_
    refine W_move rfl rfl ?_
    refine W_eql rfl rfl rfl ?_
    refine W_move rfl rfl ?_
    refine W_known (t := 46) false rfl hb21 ?_
    refine W_guard_no rfl rfl rfl rfl rfl ?_
    refine W_guard_no rfl rfl rfl rfl rfl ?_
    refine W_guard_no rfl rfl rfl rfl rfl ?_
    refine W_pick_f rfl rfl rfl ?_
    refine W_move rfl rfl ?_
    refine W_guard_no rfl rfl rfl rfl rfl ?_
    refine W_guard_no rfl rfl rfl rfl rfl ?_
    refine W_guard_no rfl rfl rfl rfl rfl ?_
    refine W_pick_f rfl rfl rfl ?_
    refine W_move rfl rfl ?_
    refine W_guard_no rfl rfl rfl rfl rfl ?_
    refine W_guard_no rfl rfl rfl rfl rfl ?_
    refine W_guard_no rfl rfl rfl rfl rfl ?_
    refine W_pick_f rfl rfl rfl ?_
    refine W_move rfl rfl ?_
    refine W_guard_no rfl rfl rfl rfl rfl ?_
    refine W_guard_no rfl rfl rfl rfl rfl ?_
    refine W_guard_no rfl rfl rfl rfl rfl ?_
    refine W_guard_no rfl rfl rfl rfl rfl ?_
    refine W_pick_f rfl rfl rfl ?_
    refine W_move rfl rfl ?_
    refine W_guard_no rfl rfl rfl rfl rfl ?_
    refine W_pick_f rfl rfl rfl ?_
    refine W_assign rfl rfl ?_
    refine W_nil ?_
    exact N_join _ ⟨rfl, Fr13, (Frz.le.refl _), hS14⟩ ⟨(look_bool rfl (by first | rfl | (rw [hb21]; first | done | rfl) | simp [hb21])), trivial⟩
  rintro E w20 ⟨rfl, F20, le20, hS20⟩
  refine N_code ?_
  obtain rfl := Option.some.inj H
  refine C_ret rfl rfl ?_
  exact ⟨F20, rfl, hS20.pick [] (by decide)⟩

end Go.Wk.Lf
