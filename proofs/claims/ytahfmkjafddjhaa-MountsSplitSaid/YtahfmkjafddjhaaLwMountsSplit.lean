import Derived.Test.YtahfmkjafddjhaaMfB
namespace Go.Wk.Lf
open Go.Proofs Go.RowKit
set_option linter.unusedVariables false
set_option linter.unusedSimpArgs false

def cellarerlaw22_MountsSplit.k2 (x0 : List Read) (x3 : Int) (r6 : (List Move) × Int) (r11 : (List Move) × Int) (i14 : Int) : Option Bool :=
  bd (cut (α := Read) x0 (wr x3) (x0.length : Int)) fun l16 =>
  bd (mounts_Moves [i14] l16) fun r18 =>
  bd (only (!((decide (r6.2 ≠ 0) || decide (r11.2 ≠ 0)) || decide (r18.2 ≠ 0))) (cellarerlaw22_count r6.1 2) 0) fun r20 =>
  bd (only (!(((decide (r6.2 ≠ 0) || decide (r11.2 ≠ 0)) || decide (r18.2 ≠ 0)) || decide (r20 ≠ (x0.length : Int)))) (cellarerlaw22_count r11.1 2) 0) fun r21 =>
  bd (only (!(((decide (r6.2 ≠ 0) || decide (r11.2 ≠ 0)) || decide (r18.2 ≠ 0)) || decide (r20 ≠ (x0.length : Int)))) (cellarerlaw22_count r18.1 2) 0) fun r22 =>
  if ((((decide (r6.2 ≠ 0) || decide (r11.2 ≠ 0)) || decide (r18.2 ≠ 0)) || decide (r20 ≠ (x0.length : Int))) || decide (wr (r21 + r22) ≠ (x0.length : Int))) then
    some false
  else
    bd (mounts_Bound x0) fun r37 =>
    bd (cut (α := Read) x0 0 (wr x3)) fun l38 =>
    bd (mounts_Bound l38) fun r40 =>
    bd (cut (α := Read) x0 (wr x3) (x0.length : Int)) fun l41 =>
    bd (mounts_Bound l41) fun r43 =>
    if decide (wr (r40 + r43) < r37) then
      some false
    else
      bd (app (α := Read) [] x0) fun l60 =>
      bd (cellarerlaw22_count r6.1 1) fun r63 =>
      bd (cellarerlaw22_count r11.1 1) fun r64 =>
      bd (cellarerlaw22_count r18.1 1) fun r65 =>
      bd (only (decide (r63 ≤ wr (r64 + r65))) (cellarerkeep_Reads l60 x0) false) fun r66 =>
      bd (only (decide (r63 ≤ wr (r64 + r65)) && r66) (cellarerlaw22_wakes) false) fun r67 =>
      some ((decide (r63 ≤ wr (r64 + r65)) && r66) && r67)


def cellarerlaw22_MountsSplit.l3 (x0 : List Read) (x3 : Int) (r6 : (List Move) × Int) (r11 : (List Move) × Int) (rec89 : (Int × Int) → Option Bool) : (Int × Int) → Option Bool
  | (i87, i88) =>
    if decide (i88 < (r11.1.length : Int)) then
      bd (ix r11.1 i88) fun x91 =>
      rec89 (x91.vol, wr (i88 + 1))
    else
      cellarerlaw22_MountsSplit.k2 x0 x3 r6 r11 i87


def cellarerlaw22_MountsSplit.k1 (x0 : List Read) (x1 : Int) : Option Bool :=
  bd (rem (wu x1) (wu (wr ((x0.length : Int) + 1)))) fun x3 =>
  bd (mounts_Moves [(-1)] x0) fun r6 =>
  bd (cut (α := Read) x0 0 (wr x3)) fun l9 =>
  bd (mounts_Moves [(-1)] l9) fun r11 =>
  loop (cellarerlaw22_MountsSplit.l3 x0 x3 r6 r11) ((-1), 0)


def cellarerlaw22_MountsSplit.l4 (x0 : List Read) (x1 : Int) (rec96 : Int → Option Bool) : Int → Option Bool
  | i95 =>
    if decide (i95 < (x0.length : Int)) then
      bd (ix x0 i95) fun x98 =>
      if decide (x98.loc.vol < 0) then
        some true
      else
        rec96 (wr (i95 + 1))
    else
      cellarerlaw22_MountsSplit.k1 x0 x1

def cellarerlaw22_MountsSplit (x0 : List Read) (x1 : Int) : Option Bool :=
  if decide (60 < (x0.length : Int)) then
    some true
  else
    loop (cellarerlaw22_MountsSplit.l4 x0 x1) 0

theorem cellarerlaw22_MountsSplit_ok {F : Frz} {w : World} {x0 : List Read} {x1 : Int} {r : Bool} {v0 : Value} (hA : Agree F w.heap) (h0 : SlF Read.t F v0 x0) (H : cellarerlaw22_MountsSplit x0 x1 = some r) : Ret Try.prog 5 #[v0, .int .i64 x1] w fun v w' => ∃ (F' : Frz), v = .bool r ∧ St [] w F F' [] w' := by
 refine Ret_of (args := [v0, .int .i64 x1]) Go.Proofs.Try.func5 rfl rfl ?_
 change C _ _ _ _ [(0, v0), (1, .int .i64 x1)] _
 have hS := St.entry hA
 dsimp only [cellarerlaw22_MountsSplit] at H
 refine C_seq ?_
 refine C_region ?_
 refine W_assign rfl rfl ?_
 refine W_nil ?_
 refine N_code ?_
 refine C_seq ?_
 refine C_seq ?_
 refine C_region ?_
 refine W_move rfl rfl ?_
 refine W_lenv rfl Go.Proofs.Try.underlying23 rfl h0.ln ?_
 refine W_gtr rfl rfl rfl ?_
 refine W_nil ?_
 refine N_code ?_
 refine C_cond rfl (fun hc1 => ?_) (fun hc1 => ?_)
 ·
  rw [if_t hc1] at H
  refine C_seq ?_
  refine C_region ?_
  refine W_assign rfl rfl ?_
  refine W_nil ?_
  refine N_code ?_
  obtain rfl := Option.some.inj H
  refine C_ret rfl rfl ?_
  exact ⟨F, rfl, hS⟩
 ·
  rw [if_f hc1] at H
  refine C_skip ?_
  refine N_code ?_
  refine C_seq_join (fun E wq => cellarerlaw22_MountsSplit.k1 x0 x1 = some r ∧ ∃ (F2 : Frz), E = [(0, v0), (1, .int .i64 x1)] ∧ F.le F2 ∧ St [] w F F2 [] wq) ?_ ?_
  ·
   refine C_seq ?_
   refine C_region ?_
   refine W_assign rfl rfl ?_
   refine W_nil ?_
   refine N_code ?_
   refine C_block ?_
   refine C_loopM (fun (s : Int) E wq => ∃ (F94 : Frz), E = [(0, v0), (1, .int .i64 x1), (5, .int .i64 s)] ∧ F.le F94 ∧ St [] w F F94 [] wq) H ?_ ?_
   ·
    exact ⟨_, ⟨F, rfl, (Frz.le.refl _), hS⟩, ⟨rfl, rfl, rfl, trivial⟩⟩
   ·
    rintro rec96 i95 E w94 hI H
    try dsimp only at hI
    obtain ⟨F94, rfl, le94, hS94⟩ := hI
    dsimp only [cellarerlaw22_MountsSplit.l4] at H
    refine C_seq ?_
    refine C_seq ?_
    refine C_region ?_
    refine W_move rfl rfl ?_
    refine W_move rfl rfl ?_
    refine W_lenv rfl Go.Proofs.Try.underlying23 rfl h0.ln ?_
    refine W_lss rfl rfl rfl ?_
    refine W_nil ?_
    refine N_code ?_
    refine C_cond rfl (fun hc97 => ?_) (fun hc97 => ?_)
    ·
     rw [if_t hc97] at H
     refine C_skip ?_
     refine N_code ?_
     refine C_seq ?_
     refine C_block ?_
     refine C_seq ?_
     obtain ⟨x98, hx98, H⟩ := bd_some H
     refine C_region ?_
     refine W_move rfl rfl ?_
     refine W_move rfl rfl ?_
     obtain ⟨hp100, hy100⟩ := ix_some hx98
     obtain ⟨cs100, hr100, he100⟩ := (h0.mono le94).at_ hy100
     obtain rfl := hr100
     replace he100 : Elf _ _ 5 _ _ := he100
     refine W_ix rfl Go.Proofs.Try.underlying23 Ty.cells39 Ty.info39 rfl rfl (he100.el hS94.agree) hp100 rfl ?_
     refine W_fld 1 rfl Ty.field39_1 rfl (he100.el hS94.agree) ?_
     refine W_fld 0 rfl Ty.field37_0 rfl (he100.el hS94.agree) ?_
     refine W_ld1 1 rfl Ty.cell3 rfl (he100.el hS94.agree) (by omega) rfl ?_
     refine W_lss rfl rfl rfl ?_
     refine W_nil ?_
     refine N_code ?_
     refine C_cond rfl (fun hc101 => ?_) (fun hc101 => ?_)
     ·
      rw [if_t hc101] at H
      refine C_seq ?_
      refine C_region ?_
      refine W_assign rfl rfl ?_
      refine W_nil ?_
      refine N_code ?_
      obtain rfl := Option.some.inj H
      refine C_ret rfl rfl ?_
      exact ⟨F94, rfl, hS94⟩
     ·
      rw [if_f hc101] at H
      refine C_skip ?_
      refine N_block ?_
      refine N_code ?_
      refine C_region ?_
      refine W_move rfl rfl ?_
      refine W_add rfl rfl rfl rfl ?_
      refine W_assign rfl rfl ?_
      refine W_nil ?_
      exact N_againM (wr (i95 + 1)) _ H ⟨F94, rfl, le94, hS94⟩ ⟨rfl, rfl, rfl, trivial⟩
    ·
     rw [if_f hc97] at H
     refine C_exit _ rfl ?_
     exact N_join _ ⟨H, ⟨F94, rfl, le94, hS94⟩⟩ ⟨rfl, rfl, trivial⟩
  ·
   rintro E w2 ⟨H, F2, rfl, le2, hS2⟩
   dsimp only [cellarerlaw22_MountsSplit.k1] at H
   refine C_seq ?_
   obtain ⟨x3, hx3, H⟩ := bd_some H
   refine C_region ?_
   refine W_move rfl rfl ?_
   refine W_conv rfl rfl Ty.some3 Go.Proofs.Try.underlying44 (rfl) ?_
   refine W_move rfl rfl ?_
   refine W_lenv rfl Go.Proofs.Try.underlying23 rfl h0.ln ?_
   refine W_add rfl rfl rfl rfl ?_
   refine W_conv rfl rfl Ty.some3 Go.Proofs.Try.underlying44 (rfl) ?_
   obtain ⟨hz4, hw4⟩ := rem_some hx3
   refine W_rem rfl rfl rfl hz4 hw4.symm ?_
   refine W_conv rfl rfl Ty.some44 Go.Proofs.Try.underlying3 (rfl) ?_
   refine W_assign rfl rfl ?_
   refine W_nil ?_
   refine N_code ?_
   refine C_seq ?_
   obtain ⟨r6, hr6, H⟩ := bd_some H
   refine C_region ?_
   refine W_bs (t := tI) [[.int .i64 (-1)]] [(-1)] rfl Go.Proofs.Try.underlying22 Ty.cells3 rfl rfl Ty.zero3 rfl rfl ⟨rfl, trivial⟩ rfl rfl hS2 ?_
   intro u5 w5 hS5
   refine W_move rfl rfl ?_
   refine W_call rfl Ty.named16 rfl (mounts_Moves_ok (now_agree _) (hS5.rowNow (k := 0) rfl) ((h0.mono le2).mono hS5.agree) hr6) ?_
   rintro v7 w7 ⟨Fr6, ur6_0, rfl, hT7⟩
   have hS7 := hS5.lentFlat hT7 ⟨fun h => h, trivial⟩
   refine W_move rfl rfl ?_
   refine W_extract rfl rfl rfl ?_
   refine W_extract rfl rfl rfl ?_
   refine W_assign rfl rfl ?_
   refine W_assign rfl rfl ?_
   refine W_nil ?_
   refine N_code ?_
   refine C_seq ?_
   obtain ⟨l9, hl9, H⟩ := bd_some H
   obtain ⟨r11, hr11, H⟩ := bd_some H
   refine C_region ?_
   refine W_bs (t := tI) [[.int .i64 (-1)]] [(-1)] rfl Go.Proofs.Try.underlying22 Ty.cells3 rfl rfl Ty.zero3 rfl rfl ⟨rfl, trivial⟩ rfl rfl hS7 ?_
   intro u8 w8 hS8
   refine W_move rfl rfl ?_
   refine W_move rfl rfl ?_
   refine W_cutM 0 (wr x3) rfl Go.Proofs.Try.underlying23 Ty.cells39 Ty.info39 rfl rfl ⟨_, rfl⟩ (h0.mono le2) hl9 ?_
   intro q10 hv10
   refine W_call rfl Ty.named16 rfl (mounts_Moves_ok (now_agree _) (hS8.rowNow (k := 0) rfl) (hv10.mono hS8.agree) hr11) ?_
   rintro v12 w12 ⟨Fr11, ur11_0, rfl, hT12⟩
   have hS12 := hS8.lentFlat hT12 ⟨fun h => h, trivial⟩
   refine W_move rfl rfl ?_
   refine W_extract rfl rfl rfl ?_
   refine W_extract rfl rfl rfl ?_
   refine W_assign rfl rfl ?_
   refine W_assign rfl rfl ?_
   refine W_nil ?_
   refine N_code ?_
   refine C_seq ?_
   refine C_region ?_
   refine W_assign rfl rfl ?_
   refine W_nil ?_
   refine N_code ?_
   refine C_seq_join (fun E wq => ∃ i14 : Int, cellarerlaw22_MountsSplit.k2 x0 x3 r6 r11 i14 = some r ∧ ∃ (F13 : Frz), E = [(0, v0), (6, .int .i64 (wr x3)), (7, ur6_0), (8, .int .i64 r6.2), (9, ur11_0), (10, .int .i64 r11.2), (11, .int .i64 i14)] ∧ F2.le F13 ∧ St [] w F F13 [.row Move.t 42 ur11_0 r11.1, .row Move.t 42 ur6_0 r6.1] wq) ?_ ?_
   ·
    refine C_seq ?_
    refine C_region ?_
    refine W_assign rfl rfl ?_
    refine W_nil ?_
    refine N_code ?_
    refine C_block ?_
    refine C_loopM (fun (s : Int × Int) E wq => ∃ (F86 : Frz), E = [(0, v0), (6, .int .i64 (wr x3)), (7, ur6_0), (8, .int .i64 r6.2), (9, ur11_0), (10, .int .i64 r11.2), (11, .int .i64 s.1), (12, .int .i64 s.2)] ∧ F2.le F86 ∧ St [] w F F86 [.row Move.t 42 ur11_0 r11.1, .row Move.t 42 ur6_0 r6.1] wq) H ?_ ?_
    ·
     exact ⟨_, ⟨F2, rfl, (Frz.le.refl _), hS12.pick [0, 2] (by decide)⟩, ⟨rfl, rfl, rfl, rfl, rfl, rfl, rfl, rfl, trivial⟩⟩
    ·
     rintro rec89 ⟨i87, i88⟩ E w86 hI H
     try dsimp only at hI
     obtain ⟨F86, rfl, le86, hS86⟩ := hI
     dsimp only [cellarerlaw22_MountsSplit.l3] at H
     refine C_seq ?_
     refine C_seq ?_
     refine C_region ?_
     refine W_move rfl rfl ?_
     refine W_move rfl rfl ?_
     refine W_lenv rfl Go.Proofs.Try.underlying25 rfl (hS86.rowLn (k := 0) rfl) ?_
     refine W_lss rfl rfl rfl ?_
     refine W_nil ?_
     refine N_code ?_
     refine C_cond rfl (fun hc90 => ?_) (fun hc90 => ?_)
     ·
      rw [if_t hc90] at H
      refine C_skip ?_
      refine N_code ?_
      refine C_seq ?_
      refine C_block ?_
      obtain ⟨x91, hx91, H⟩ := bd_some H
      refine C_region ?_
      refine W_move rfl rfl ?_
      refine W_move rfl rfl ?_
      obtain ⟨hp93, hy93⟩ := ix_some hx91
      obtain ⟨cs93, hr93, he93⟩ := hS86.rowAt (k := 0) rfl hy93
      obtain rfl := hr93
      replace he93 : El _ _ 7 _ _ := he93
      refine W_ix rfl Go.Proofs.Try.underlying25 Ty.cells42 Ty.info42 rfl rfl he93 hp93 rfl ?_
      refine W_fld 2 rfl Ty.field42_2 rfl he93 ?_
      refine W_ld1 2 rfl Ty.cell3 rfl he93 (by omega) rfl ?_
      refine W_assign rfl rfl ?_
      refine W_nil ?_
      refine N_block ?_
      refine N_code ?_
      refine C_region ?_
      refine W_move rfl rfl ?_
      refine W_add rfl rfl rfl rfl ?_
      refine W_assign rfl rfl ?_
      refine W_nil ?_
      exact N_againM (x91.vol, wr (i88 + 1)) _ H ⟨F86, rfl, le86, hS86⟩ ⟨rfl, rfl, rfl, rfl, rfl, rfl, rfl, rfl, trivial⟩
     ·
      rw [if_f hc90] at H
      refine C_exit _ rfl ?_
      exact N_join _ ⟨i87, H, ⟨F86, rfl, le86, hS86⟩⟩ ⟨rfl, rfl, rfl, rfl, rfl, rfl, rfl, trivial⟩
   ·
    rintro E w13 ⟨i14, H, F13, rfl, le13, hS13⟩
    dsimp only [cellarerlaw22_MountsSplit.k2] at H
    refine C_seq ?_
    obtain ⟨l16, hl16, H⟩ := bd_some H
    obtain ⟨r18, hr18, H⟩ := bd_some H
    refine C_region ?_
    refine W_move rfl rfl ?_
    refine W_bs (t := tI) [[.int .i64 i14]] [i14] rfl Go.Proofs.Try.underlying22 Ty.cells3 rfl rfl Ty.zero3 rfl rfl ⟨rfl, trivial⟩ rfl rfl hS13 ?_
    intro u15 w15 hS15
    refine W_move rfl rfl ?_
    refine W_move rfl rfl ?_
    refine W_cutM (wr x3) (x0.length : Int) rfl Go.Proofs.Try.underlying23 Ty.cells39 Ty.info39 rfl ⟨_, rfl⟩ rfl (h0.mono (le2.trans le13)) hl16 ?_
    intro q17 hv17
    refine W_call rfl Ty.named16 rfl (mounts_Moves_ok (now_agree _) (hS15.rowNow (k := 0) rfl) (hv17.mono hS15.agree) hr18) ?_
    rintro v19 w19 ⟨Fr18, ur18_0, rfl, hT19⟩
    have hS19 := hS15.lentFlat hT19 ⟨fun h => h, trivial⟩
    refine W_move rfl rfl ?_
    refine W_extract rfl rfl rfl ?_
    refine W_extract rfl rfl rfl ?_
    refine W_assign rfl rfl ?_
    refine W_assign rfl rfl ?_
    refine W_nil ?_
    refine N_code ?_
    refine C_seq ?_
    refine C_seq ?_
    obtain ⟨r20, hr20, H⟩ := bd_some H
    obtain ⟨r21, hr21, H⟩ := bd_some H
    obtain ⟨r22, hr22, H⟩ := bd_some H
    refine C_join (fun E wq => E = [(0, v0), (6, .int .i64 (wr x3)), (7, ur6_0), (9, ur11_0), (13, ur18_0), (100, .bool ((((decide (r6.2 ≠ 0) || decide (r11.2 ≠ 0)) || decide (r18.2 ≠ 0)) || decide (r20 ≠ (x0.length : Int))) || decide (wr (r21 + r22) ≠ (x0.length : Int))))] ∧ ∃ F23 : Frz, F13.le F23 ∧ St [] w F F23 [.row Move.t 42 ur18_0 r18.1, .row tI 3 u15 [i14], .row Move.t 42 ur11_0 r11.1, .row Move.t 42 ur6_0 r6.1] wq) ?_ ?_
    ·
     rcases Bool.eq_false_or_eq_true (decide (r6.2 ≠ 0)) with hb24 | hb24
     ·
      refine C_region ?_
      refine W_move rfl rfl ?_
      refine W_neq rfl rfl rfl ?_
      refine W_move rfl rfl ?_
      refine W_known (t := 76) true rfl hb24 ?_
      refine W_guard_no rfl rfl rfl rfl rfl ?_
      refine W_guard_no rfl rfl rfl rfl rfl ?_
      refine W_pick_t rfl rfl rfl ?_
      refine W_move rfl rfl ?_
      refine W_guard_no rfl rfl rfl rfl rfl ?_
      refine W_guard_no rfl rfl rfl rfl rfl ?_
      refine W_pick_t rfl rfl rfl ?_
      refine W_move rfl rfl ?_
      refine W_guard_no rfl rfl rfl rfl rfl ?_
      refine W_guard_no rfl rfl rfl rfl rfl ?_
      refine W_guard_no rfl rfl rfl rfl rfl ?_
      refine W_guard_no rfl rfl rfl rfl rfl ?_
      refine W_guard_no rfl rfl rfl rfl rfl ?_
      refine W_pick_t rfl rfl rfl ?_
      refine W_move rfl rfl ?_
      refine W_guard_no rfl rfl rfl rfl rfl ?_
      refine W_guard_no rfl rfl rfl rfl rfl ?_
      refine W_guard_no rfl rfl rfl rfl rfl ?_
      refine W_guard_no rfl rfl rfl rfl rfl ?_
      refine W_guard_no rfl rfl rfl rfl rfl ?_
      refine W_guard_no rfl rfl rfl rfl rfl ?_
      refine W_guard_no rfl rfl rfl rfl rfl ?_
      refine W_guard_no rfl rfl rfl rfl rfl ?_
      refine W_pick_t rfl rfl rfl ?_
      refine W_nil ?_
      exact N_join _ ⟨rfl, F13, (Frz.le.refl _), hS19⟩ ⟨rfl, rfl, rfl, rfl, rfl, (look_bool rfl (by first | rfl | (rw [hb24]; first | done | rfl) | simp [hb24])), trivial⟩
     ·
      rcases Bool.eq_false_or_eq_true (decide (r11.2 ≠ 0)) with hb25 | hb25
      ·
       refine C_region ?_
       refine W_move rfl rfl ?_
       refine W_neq rfl rfl rfl ?_
       refine W_move rfl rfl ?_
       refine W_known (t := 76) false rfl hb24 ?_
       refine W_guard_yes rfl ?_
       refine W_move rfl rfl ?_
       refine W_guard_yes rfl ?_
       refine W_neq rfl rfl rfl ?_
       refine W_pick_f rfl rfl rfl ?_
       refine W_move rfl rfl ?_
       refine W_known (t := 80) true rfl hb25 ?_
       refine W_guard_no rfl rfl rfl rfl rfl ?_
       refine W_guard_no rfl rfl rfl rfl rfl ?_
       refine W_pick_t rfl rfl rfl ?_
       refine W_move rfl rfl ?_
       refine W_guard_no rfl rfl rfl rfl rfl ?_
       refine W_guard_no rfl rfl rfl rfl rfl ?_
       refine W_guard_no rfl rfl rfl rfl rfl ?_
       refine W_guard_no rfl rfl rfl rfl rfl ?_
       refine W_guard_no rfl rfl rfl rfl rfl ?_
       refine W_pick_t rfl rfl rfl ?_
       refine W_move rfl rfl ?_
       refine W_guard_no rfl rfl rfl rfl rfl ?_
       refine W_guard_no rfl rfl rfl rfl rfl ?_
       refine W_guard_no rfl rfl rfl rfl rfl ?_
       refine W_guard_no rfl rfl rfl rfl rfl ?_
       refine W_guard_no rfl rfl rfl rfl rfl ?_
       refine W_guard_no rfl rfl rfl rfl rfl ?_
       refine W_guard_no rfl rfl rfl rfl rfl ?_
       refine W_guard_no rfl rfl rfl rfl rfl ?_
       refine W_pick_t rfl rfl rfl ?_
       refine W_nil ?_
       exact N_join _ ⟨rfl, F13, (Frz.le.refl _), hS19⟩ ⟨rfl, rfl, rfl, rfl, rfl, (look_bool rfl (by first | rfl | (rw [hb25, hb24]; first | done | rfl) | simp [hb24, hb25])), trivial⟩
      ·
       rcases Bool.eq_false_or_eq_true (decide (r18.2 ≠ 0)) with hb26 | hb26
       ·
        refine C_region ?_
        refine W_move rfl rfl ?_
        refine W_neq rfl rfl rfl ?_
        refine W_move rfl rfl ?_
        refine W_known (t := 76) false rfl hb24 ?_
        refine W_guard_yes rfl ?_
        refine W_move rfl rfl ?_
        refine W_guard_yes rfl ?_
        refine W_neq rfl rfl rfl ?_
        refine W_pick_f rfl rfl rfl ?_
        refine W_move rfl rfl ?_
        refine W_known (t := 80) false rfl hb25 ?_
        refine W_guard_yes rfl ?_
        refine W_move rfl rfl ?_
        refine W_guard_yes rfl ?_
        refine W_neq rfl rfl rfl ?_
        refine W_pick_f rfl rfl rfl ?_
        refine W_move rfl rfl ?_
        refine W_known (t := 84) true rfl hb26 ?_
        refine W_guard_no rfl rfl rfl rfl rfl ?_
        refine W_guard_no rfl rfl rfl rfl rfl ?_
        refine W_guard_no rfl rfl rfl rfl rfl ?_
        refine W_guard_no rfl rfl rfl rfl rfl ?_
        refine W_guard_no rfl rfl rfl rfl rfl ?_
        refine W_pick_t rfl rfl rfl ?_
        refine W_move rfl rfl ?_
        refine W_guard_no rfl rfl rfl rfl rfl ?_
        refine W_guard_no rfl rfl rfl rfl rfl ?_
        refine W_guard_no rfl rfl rfl rfl rfl ?_
        refine W_guard_no rfl rfl rfl rfl rfl ?_
        refine W_guard_no rfl rfl rfl rfl rfl ?_
        refine W_guard_no rfl rfl rfl rfl rfl ?_
        refine W_guard_no rfl rfl rfl rfl rfl ?_
        refine W_guard_no rfl rfl rfl rfl rfl ?_
        refine W_pick_t rfl rfl rfl ?_
        refine W_nil ?_
        exact N_join _ ⟨rfl, F13, (Frz.le.refl _), hS19⟩ ⟨rfl, rfl, rfl, rfl, rfl, (look_bool rfl (by first | rfl | (rw [hb25, hb26, hb24]; first | done | rfl) | simp [hb24, hb25, hb26])), trivial⟩
       ·
        rcases Bool.eq_false_or_eq_true (decide (r20 ≠ (x0.length : Int))) with hb27 | hb27
        ·
         refine C_region ?_
         refine W_move rfl rfl ?_
         refine W_neq rfl rfl rfl ?_
         refine W_move rfl rfl ?_
         refine W_known (t := 76) false rfl hb24 ?_
         refine W_guard_yes rfl ?_
         refine W_move rfl rfl ?_
         refine W_guard_yes rfl ?_
         refine W_neq rfl rfl rfl ?_
         refine W_pick_f rfl rfl rfl ?_
         refine W_move rfl rfl ?_
         refine W_known (t := 80) false rfl hb25 ?_
         refine W_guard_yes rfl ?_
         refine W_move rfl rfl ?_
         refine W_guard_yes rfl ?_
         refine W_neq rfl rfl rfl ?_
         refine W_pick_f rfl rfl rfl ?_
         refine W_move rfl rfl ?_
         refine W_known (t := 84) false rfl hb26 ?_
         refine W_guard_yes rfl ?_
         refine W_move rfl rfl ?_
         refine W_guard_yes rfl ?_
         have hy28 := hr20
         rw [only_t (by first | rfl | (rw [hb25, hb26, hb24]; first | done | rfl) | simp [hb24, hb25, hb26, hb27])] at hy28
         refine W_call rfl Ty.named25 rfl (cellarerlaw22_count_ok (now_agree _) (hS19.rowNow (k := 3) rfl) hy28) ?_
         rintro v29 w29 ⟨Fr20, rfl, hT29⟩
         have hS29 := hS19.lent hT29
         refine W_guard_yes rfl ?_
         refine W_move rfl rfl ?_
         refine W_guard_yes rfl ?_
         refine W_lenv rfl Go.Proofs.Try.underlying23 rfl h0.ln ?_
         refine W_guard_yes rfl ?_
         refine W_neq rfl rfl rfl ?_
         refine W_pick_f rfl rfl rfl ?_
         refine W_move rfl rfl ?_
         refine W_known (t := 91) true rfl hb27 ?_
         refine W_guard_no rfl rfl rfl rfl rfl ?_
         refine W_guard_no rfl rfl rfl rfl rfl ?_
         refine W_guard_no rfl rfl rfl rfl rfl ?_
         refine W_guard_no rfl rfl rfl rfl rfl ?_
         refine W_guard_no rfl rfl rfl rfl rfl ?_
         refine W_guard_no rfl rfl rfl rfl rfl ?_
         refine W_guard_no rfl rfl rfl rfl rfl ?_
         refine W_guard_no rfl rfl rfl rfl rfl ?_
         refine W_pick_t rfl rfl rfl ?_
         refine W_nil ?_
         exact N_join _ ⟨rfl, F13, (Frz.le.refl _), hS29⟩ ⟨rfl, rfl, rfl, rfl, rfl, (look_bool rfl (by first | rfl | (rw [hb27, hb25, hb26, hb24]; first | done | rfl) | simp [hb24, hb25, hb26, hb27])), trivial⟩
        ·
         refine C_region ?_
         refine W_move rfl rfl ?_
         refine W_neq rfl rfl rfl ?_
         refine W_move rfl rfl ?_
         refine W_known (t := 76) false rfl hb24 ?_
         refine W_guard_yes rfl ?_
         refine W_move rfl rfl ?_
         refine W_guard_yes rfl ?_
         refine W_neq rfl rfl rfl ?_
         refine W_pick_f rfl rfl rfl ?_
         refine W_move rfl rfl ?_
         refine W_known (t := 80) false rfl hb25 ?_
         refine W_guard_yes rfl ?_
         refine W_move rfl rfl ?_
         refine W_guard_yes rfl ?_
         refine W_neq rfl rfl rfl ?_
         refine W_pick_f rfl rfl rfl ?_
         refine W_move rfl rfl ?_
         refine W_known (t := 84) false rfl hb26 ?_
         refine W_guard_yes rfl ?_
         refine W_move rfl rfl ?_
         refine W_guard_yes rfl ?_
         have hy30 := hr20
         rw [only_t (by first | rfl | (rw [hb25, hb26, hb24]; first | done | rfl) | simp [hb24, hb25, hb26, hb27])] at hy30
         refine W_call rfl Ty.named25 rfl (cellarerlaw22_count_ok (now_agree _) (hS19.rowNow (k := 3) rfl) hy30) ?_
         rintro v31 w31 ⟨Fr20, rfl, hT31⟩
         have hS31 := hS19.lent hT31
         refine W_guard_yes rfl ?_
         refine W_move rfl rfl ?_
         refine W_guard_yes rfl ?_
         refine W_lenv rfl Go.Proofs.Try.underlying23 rfl h0.ln ?_
         refine W_guard_yes rfl ?_
         refine W_neq rfl rfl rfl ?_
         refine W_pick_f rfl rfl rfl ?_
         refine W_move rfl rfl ?_
         refine W_known (t := 91) false rfl hb27 ?_
         refine W_guard_yes rfl ?_
         refine W_move rfl rfl ?_
         refine W_guard_yes rfl ?_
         have hy32 := hr21
         rw [only_t (by first | rfl | (rw [hb27, hb25, hb26, hb24]; first | done | rfl) | simp [hb24, hb25, hb26, hb27])] at hy32
         refine W_call rfl Ty.named25 rfl (cellarerlaw22_count_ok (now_agree _) (hS31.rowNow (k := 2) rfl) hy32) ?_
         rintro v33 w33 ⟨Fr21, rfl, hT33⟩
         have hS33 := hS31.lent hT33
         refine W_guard_yes rfl ?_
         refine W_move rfl rfl ?_
         refine W_guard_yes rfl ?_
         have hy34 := hr22
         rw [only_t (by first | rfl | (rw [hb27, hb25, hb26, hb24]; first | done | rfl) | simp [hb24, hb25, hb26, hb27])] at hy34
         refine W_call rfl Ty.named25 rfl (cellarerlaw22_count_ok (now_agree _) (hS33.rowNow (k := 0) rfl) hy34) ?_
         rintro v35 w35 ⟨Fr22, rfl, hT35⟩
         have hS35 := hS33.lent hT35
         refine W_guard_yes rfl ?_
         refine W_add rfl rfl rfl rfl ?_
         refine W_guard_yes rfl ?_
         refine W_move rfl rfl ?_
         refine W_guard_yes rfl ?_
         refine W_lenv rfl Go.Proofs.Try.underlying23 rfl h0.ln ?_
         refine W_guard_yes rfl ?_
         refine W_neq rfl rfl rfl ?_
         refine W_pick_f rfl rfl rfl ?_
         refine W_nil ?_
         exact N_join _ ⟨rfl, F13, (Frz.le.refl _), hS35⟩ ⟨rfl, rfl, rfl, rfl, rfl, (look_bool rfl (by first | rfl | (rw [hb27, hb25, hb26, hb24]; first | done | rfl) | simp [hb24, hb25, hb26, hb27])), trivial⟩
    rintro E w23 ⟨rfl, F23, le23, hS23⟩
    refine N_code ?_
    refine C_cond rfl (fun hc36 => ?_) (fun hc36 => ?_)
    ·
     rw [if_t hc36] at H
     refine C_seq ?_
     refine C_region ?_
     refine W_assign rfl rfl ?_
     refine W_nil ?_
     refine N_code ?_
     obtain rfl := Option.some.inj H
     refine C_ret rfl rfl ?_
     exact ⟨F23, rfl, hS23.pick [] (by decide)⟩
    ·
     rw [if_f hc36] at H
     refine C_skip ?_
     refine N_code ?_
     refine C_seq ?_
     refine C_seq ?_
     obtain ⟨r37, hr37, H⟩ := bd_some H
     obtain ⟨l38, hl38, H⟩ := bd_some H
     obtain ⟨r40, hr40, H⟩ := bd_some H
     obtain ⟨l41, hl41, H⟩ := bd_some H
     obtain ⟨r43, hr43, H⟩ := bd_some H
     apply C_draw 11 [[], [0], [], [], [2, 3], [4], [], [], [6, 7], [8], [5, 9]] [.val (v0), .val (.int .i64 r37), .val (v0), .val (.int .i64 (wr x3)), .pred (fun v wz => SlF Read.t F23 v l38) stable_slf, .val (.int .i64 r40), .val (v0), .val (.int .i64 (wr x3)), .pred (fun v wz => SlF Read.t F23 v l41) stable_slf, .val (.int .i64 r43), .val (.int .i64 (wr (r40 + r43)))] Ty.mixed rfl rfl (by kernel_rfl) (by kernel_rfl) rfl
     ·
      refine ⟨?_, ?_, ?_, ?_, ?_, ?_, ?_, ?_, ?_, ?_, ?_, trivial⟩
      ·
       intro w44 vq44 hB44 hH44
       have hS44 := hS23.below hB44
       refine W_move rfl rfl ?_
       refine W_nil ?_
       exact N_step rfl rfl (Below.refl _ _)
      ·
       intro w45 vq45 hB45 hH45
       have hS45 := hS23.below hB45
       refine W_call rfl Ty.named22 rfl (mounts_Bound_ok hS45.agree (h0.mono ((le2.trans le13).trans le23)) hr37) ?_
       rintro v46 w46 ⟨Fr37, rfl, hT46⟩
       have hS46 := hS45.lent hT46
       refine W_nil ?_
       exact N_step rfl rfl hT46.below0
      ·
       intro w47 vq47 hB47 hH47
       have hS47 := hS23.below hB47
       refine W_move rfl rfl ?_
       refine W_nil ?_
       exact N_step rfl rfl (Below.refl _ _)
      ·
       intro w48 vq48 hB48 hH48
       have hS48 := hS23.below hB48
       refine W_move rfl rfl ?_
       refine W_nil ?_
       exact N_step rfl rfl (Below.refl _ _)
      ·
       intro w49 vq49 hB49 hH49
       have hS49 := hS23.below hB49
       refine W_cutM 0 (wr x3) rfl Go.Proofs.Try.underlying23 Ty.cells39 Ty.info39 rfl rfl ⟨_, rfl⟩ (h0.mono ((le2.trans le13).trans le23)) hl38 ?_
       intro q39 hv39
       refine W_nil ?_
       exact N_step rfl hv39 (Below.refl _ _)
      ·
       intro w50 vq50 hB50 hH50
       obtain ⟨hp50_4, _⟩ := hH50
       have hS50 := hS23.below hB50
       refine W_call rfl Ty.named22 rfl (mounts_Bound_ok hS50.agree hp50_4 hr40) ?_
       rintro v51 w51 ⟨Fr40, rfl, hT51⟩
       have hS51 := hS50.lent hT51
       refine W_nil ?_
       exact N_step rfl rfl hT51.below0
      ·
       intro w52 vq52 hB52 hH52
       have hS52 := hS23.below hB52
       refine W_move rfl rfl ?_
       refine W_nil ?_
       exact N_step rfl rfl (Below.refl _ _)
      ·
       intro w53 vq53 hB53 hH53
       have hS53 := hS23.below hB53
       refine W_move rfl rfl ?_
       refine W_nil ?_
       exact N_step rfl rfl (Below.refl _ _)
      ·
       intro w54 vq54 hB54 hH54
       have hS54 := hS23.below hB54
       refine W_cutM (wr x3) (x0.length : Int) rfl Go.Proofs.Try.underlying23 Ty.cells39 Ty.info39 rfl ⟨_, rfl⟩ rfl (h0.mono ((le2.trans le13).trans le23)) hl41 ?_
       intro q42 hv42
       refine W_nil ?_
       exact N_step rfl hv42 (Below.refl _ _)
      ·
       intro w55 vq55 hB55 hH55
       obtain ⟨hp55_8, _⟩ := hH55
       have hS55 := hS23.below hB55
       refine W_call rfl Ty.named22 rfl (mounts_Bound_ok hS55.agree hp55_8 hr43) ?_
       rintro v56 w56 ⟨Fr43, rfl, hT56⟩
       have hS56 := hS55.lent hT56
       refine W_nil ?_
       exact N_step rfl rfl hT56.below0
      ·
       intro w57 vq57 hB57 hH57
       have hS57 := hS23.below hB57
       refine W_add rfl rfl rfl rfl ?_
       refine W_nil ?_
       exact N_step rfl rfl (Below.refl _ _)
     intro w58 vq58 hB58 hH58
     obtain ⟨_, _, _, _, hp58_4, _, _, _, hp58_8, _, _, _⟩ := hH58
     have hS58 := hS23.below hB58
     refine W_gtr rfl rfl rfl ?_
     refine W_nil ?_
     refine N_code ?_
     refine C_cond rfl (fun hc59 => ?_) (fun hc59 => ?_)
     ·
      rw [if_t hc59] at H
      refine C_seq ?_
      refine C_region ?_
      refine W_assign rfl rfl ?_
      refine W_nil ?_
      refine N_code ?_
      obtain rfl := Option.some.inj H
      refine C_ret rfl rfl ?_
      exact ⟨F23, rfl, hS58.pick [] (by decide)⟩
     ·
      rw [if_f hc59] at H
      refine C_skip ?_
      refine N_code ?_
      refine C_seq ?_
      refine C_region ?_
      refine W_assign rfl rfl ?_
      refine W_nil ?_
      refine N_code ?_
      refine C_seq ?_
      obtain ⟨l60, hl60, H⟩ := bd_some H
      refine C_region ?_
      refine W_move rfl rfl ?_
      refine W_move rfl rfl ?_
      have hS62 := hS58.nilRow Read.t 39
      refine W_appM 0 rfl Go.Proofs.Try.underlying23 Ty.row39 rfl rfl rfl rfl rfl hS62 rfl ((h0.mono ((le2.trans le13).trans le23)).src hS62.agree) hl60 ?_
      intro v61 w61 hS61
      refine W_assign rfl rfl ?_
      refine W_nil ?_
      refine N_code ?_
      refine C_seq ?_
      obtain ⟨r63, hr63, H⟩ := bd_some H
      obtain ⟨r64, hr64, H⟩ := bd_some H
      obtain ⟨r65, hr65, H⟩ := bd_some H
      obtain ⟨r66, hr66, H⟩ := bd_some H
      obtain ⟨r67, hr67, H⟩ := bd_some H
      refine C_join (fun E wq => E = [(4, .bool ((decide (r63 ≤ wr (r64 + r65)) && r66) && r67))] ∧ ∃ F68 : Frz, F23.le F68 ∧ St [] w F F68 [.row Read.t 39 v61 l60, .row Move.t 42 ur18_0 r18.1, .row tI 3 u15 [i14], .row Move.t 42 ur11_0 r11.1, .row Move.t 42 ur6_0 r6.1] wq) ?_ ?_
      ·
       rcases Bool.eq_false_or_eq_true (decide (r63 ≤ wr (r64 + r65))) with hb69 | hb69
       ·
        rcases Bool.eq_false_or_eq_true r66 with hb70 | hb70
        ·
         refine C_region ?_
         refine W_move rfl rfl ?_
         refine W_call rfl Ty.named25 rfl (cellarerlaw22_count_ok (now_agree _) (hS61.rowNow (k := 4) rfl) hr63) ?_
         rintro v71 w71 ⟨Fr63, rfl, hT71⟩
         have hS71 := hS61.lent hT71
         refine W_move rfl rfl ?_
         refine W_call rfl Ty.named25 rfl (cellarerlaw22_count_ok (now_agree _) (hS71.rowNow (k := 3) rfl) hr64) ?_
         rintro v72 w72 ⟨Fr64, rfl, hT72⟩
         have hS72 := hS71.lent hT72
         refine W_move rfl rfl ?_
         refine W_call rfl Ty.named25 rfl (cellarerlaw22_count_ok (now_agree _) (hS72.rowNow (k := 1) rfl) hr65) ?_
         rintro v73 w73 ⟨Fr65, rfl, hT73⟩
         have hS73 := hS72.lent hT73
         refine W_add rfl rfl rfl rfl ?_
         refine W_leq rfl rfl rfl ?_
         refine W_move rfl rfl ?_
         refine W_known (t := 124) true rfl hb69 ?_
         refine W_guard_yes rfl ?_
         refine W_move rfl rfl ?_
         refine W_guard_yes rfl ?_
         refine W_move rfl rfl ?_
         refine W_guard_yes rfl ?_
         have hy74 := hr66
         rw [only_t hb69] at hy74
         refine W_call rfl Ty.named21 rfl (cellarerkeep_Reads_ok (now_agree _) (hS73.rowNow (k := 0) rfl) ((h0.mono ((le2.trans le13).trans le23)).mono hS73.agree) hy74) ?_
         rintro v75 w75 ⟨Fr66, rfl, hT75⟩
         have hS75 := hS73.lent hT75
         refine W_pick_t rfl rfl rfl ?_
         refine W_move rfl rfl ?_
         refine W_known (t := 129) true rfl hb70 ?_
         refine W_guard_yes rfl ?_
         have hy76 := hr67
         rw [only_t (by first | rfl | (rw [hb69, hb70]; first | done | rfl) | simp [hb69, hb70])] at hy76
         refine W_call rfl Ty.named23 rfl (cellarerlaw22_wakes_ok hS75.agree hy76) ?_
         rintro v77 w77 ⟨Fr67, rfl, hT77⟩
         have hS77 := hS75.lent hT77
         refine W_pick_t rfl rfl rfl ?_
         refine W_assign rfl rfl ?_
         refine W_nil ?_
         exact N_join _ ⟨rfl, F23, (Frz.le.refl _), hS77⟩ ⟨(look_bool rfl (by first | rfl | (rw [hb69, hb70]; first | done | rfl) | simp [hb69, hb70])), trivial⟩
        ·
         refine C_region ?_
         refine W_move rfl rfl ?_
         refine W_call rfl Ty.named25 rfl (cellarerlaw22_count_ok (now_agree _) (hS61.rowNow (k := 4) rfl) hr63) ?_
         rintro v78 w78 ⟨Fr63, rfl, hT78⟩
         have hS78 := hS61.lent hT78
         refine W_move rfl rfl ?_
         refine W_call rfl Ty.named25 rfl (cellarerlaw22_count_ok (now_agree _) (hS78.rowNow (k := 3) rfl) hr64) ?_
         rintro v79 w79 ⟨Fr64, rfl, hT79⟩
         have hS79 := hS78.lent hT79
         refine W_move rfl rfl ?_
         refine W_call rfl Ty.named25 rfl (cellarerlaw22_count_ok (now_agree _) (hS79.rowNow (k := 1) rfl) hr65) ?_
         rintro v80 w80 ⟨Fr65, rfl, hT80⟩
         have hS80 := hS79.lent hT80
         refine W_add rfl rfl rfl rfl ?_
         refine W_leq rfl rfl rfl ?_
         refine W_move rfl rfl ?_
         refine W_known (t := 124) true rfl hb69 ?_
         refine W_guard_yes rfl ?_
         refine W_move rfl rfl ?_
         refine W_guard_yes rfl ?_
         refine W_move rfl rfl ?_
         refine W_guard_yes rfl ?_
         have hy81 := hr66
         rw [only_t hb69] at hy81
         refine W_call rfl Ty.named21 rfl (cellarerkeep_Reads_ok (now_agree _) (hS80.rowNow (k := 0) rfl) ((h0.mono ((le2.trans le13).trans le23)).mono hS80.agree) hy81) ?_
         rintro v82 w82 ⟨Fr66, rfl, hT82⟩
         have hS82 := hS80.lent hT82
         refine W_pick_t rfl rfl rfl ?_
         refine W_move rfl rfl ?_
         refine W_known (t := 129) false rfl hb70 ?_
         refine W_guard_no rfl rfl rfl rfl rfl ?_
         refine W_pick_f rfl rfl rfl ?_
         refine W_assign rfl rfl ?_
         refine W_nil ?_
         exact N_join _ ⟨rfl, F23, (Frz.le.refl _), hS82⟩ ⟨(look_bool rfl (by first | rfl | (rw [hb69, hb70]; first | done | rfl) | simp [hb69, hb70])), trivial⟩
       ·
        refine C_region ?_
        refine W_move rfl rfl ?_
        refine W_call rfl Ty.named25 rfl (cellarerlaw22_count_ok (now_agree _) (hS61.rowNow (k := 4) rfl) hr63) ?_
        rintro v83 w83 ⟨Fr63, rfl, hT83⟩
        have hS83 := hS61.lent hT83
        refine W_move rfl rfl ?_
        refine W_call rfl Ty.named25 rfl (cellarerlaw22_count_ok (now_agree _) (hS83.rowNow (k := 3) rfl) hr64) ?_
        rintro v84 w84 ⟨Fr64, rfl, hT84⟩
        have hS84 := hS83.lent hT84
        refine W_move rfl rfl ?_
        refine W_call rfl Ty.named25 rfl (cellarerlaw22_count_ok (now_agree _) (hS84.rowNow (k := 1) rfl) hr65) ?_
        rintro v85 w85 ⟨Fr65, rfl, hT85⟩
        have hS85 := hS84.lent hT85
        refine W_add rfl rfl rfl rfl ?_
        refine W_leq rfl rfl rfl ?_
        refine W_move rfl rfl ?_
        refine W_known (t := 124) false rfl hb69 ?_
        refine W_guard_no rfl rfl rfl rfl rfl ?_
        refine W_guard_no rfl rfl rfl rfl rfl ?_
        refine W_guard_no rfl rfl rfl rfl rfl ?_
        refine W_pick_f rfl rfl rfl ?_
        refine W_move rfl rfl ?_
        refine W_guard_no rfl rfl rfl rfl rfl ?_
        refine W_pick_f rfl rfl rfl ?_
        refine W_assign rfl rfl ?_
        refine W_nil ?_
        exact N_join _ ⟨rfl, F23, (Frz.le.refl _), hS85⟩ ⟨(look_bool rfl (by first | rfl | (rw [hb69]; first | done | rfl) | simp [hb69])), trivial⟩
      rintro E w68 ⟨rfl, F68, le68, hS68⟩
      refine N_code ?_
      obtain rfl := Option.some.inj H
      refine C_ret rfl rfl ?_
      exact ⟨F68, rfl, hS68.pick [] (by decide)⟩

end Go.Wk.Lf
