import Derived.Test.YtahfmkjafddjhaaMfB
import Derived.Test.YtahfmkjafddjhaaDrawd
namespace Go.Wk.Lf
open Go.Proofs Go.RowKit
set_option linter.unusedVariables false
set_option linter.unusedSimpArgs false

def cellarerlaw22_MountsDone.k3 (x1 : List Read) (i29 : Int) : Option Bool :=
  bd (only (decide (i29 = (x1.length : Int))) (cellarerlaw22_wakes) false) fun r30 =>
  some (decide (i29 = (x1.length : Int)) && r30)


def cellarerlaw22_MountsDone.k5 (i40 : Int) (rec43 : ((List Int) × Int × Int × (List Bool) × (List Int)) → Option Bool) (l46 : List Int) (i49 : Int) (l50 : List Bool) (l51 : List Int) : Option Bool :=
  rec43 (l46, i49, wr (i40 + 1), l50, l51)


def cellarerlaw22_MountsDone.k7 (x1 : List Read) (l36 : List Int) (i39 : Int) (i40 : Int) (l41 : List Bool) (l42 : List Int) (rec43 : ((List Int) × Int × Int × (List Bool) × (List Int)) → Option Bool) (x52 : Move) (i62 : Int) : Option Bool :=
  bd (only (!decide (x52.kind ≠ 2)) (ix l42 x52.drive) 0) fun x63 =>
  bd (only (!((decide (x52.kind ≠ 2) || decide (x63 ≠ x52.vol)) || decide (i62 = (x1.length : Int)))) (ix x1 i62) (Read.mk 0 (Loc.mk 0 0 0 0))) fun x65 =>
  bd (only (!((decide (x52.kind ≠ 2) || decide (x63 ≠ x52.vol)) || decide (i62 = (x1.length : Int)))) (cellarerkeep_Loc x65.loc x52.loc) false) fun r67 =>
  if (((decide (x52.kind ≠ 2) || decide (x63 ≠ x52.vol)) || decide (i62 = (x1.length : Int))) || (!r67)) then
    some false
  else
    bd (ix l41 i62) fun x203 =>
    cellarerlaw22_MountsDone.k5 i40 rec43 l36 (wr (i39 + 1)) (l41.set i62.toNat true) l42


def cellarerlaw22_MountsDone.l8 (x1 : List Read) (l36 : List Int) (i39 : Int) (i40 : Int) (l41 : List Bool) (l42 : List Int) (rec43 : ((List Int) × Int × Int × (List Bool) × (List Int)) → Option Bool) (x52 : Move) (rec210 : Int → Option Bool) : Int → Option Bool
  | i209 =>
    bd (only (decide (i209 < (x1.length : Int))) (ix l41 i209) false) fun x211 =>
    bd (only (decide (i209 < (x1.length : Int)) && (!x211)) (ix x1 i209) (Read.mk 0 (Loc.mk 0 0 0 0))) fun x213 =>
    if (decide (i209 < (x1.length : Int)) && (x211 || decide (x213.loc.vol ≠ x52.vol))) then
      rec210 (wr (i209 + 1))
    else
      cellarerlaw22_MountsDone.k7 x1 l36 i39 i40 l41 l42 rec43 x52 i209


def cellarerlaw22_MountsDone.k6 (x1 : List Read) (l36 : List Int) (i39 : Int) (i40 : Int) (l41 : List Bool) (l42 : List Int) (rec43 : ((List Int) × Int × Int × (List Bool) × (List Int)) → Option Bool) (x52 : Move) : Option Bool :=
  loop (cellarerlaw22_MountsDone.l8 x1 l36 i39 i40 l41 l42 rec43 x52) 0


def cellarerlaw22_MountsDone.k9 (l36 : List Int) (i39 : Int) (i40 : Int) (l41 : List Bool) (l42 : List Int) (rec43 : ((List Int) × Int × Int × (List Bool) × (List Int)) → Option Bool) (x52 : Move) : Option Bool :=
  bd (app (α := Int) l36 [x52.vol]) fun l291 =>
  bd (ix l42 x52.drive) fun x293 =>
  cellarerlaw22_MountsDone.k5 i40 rec43 l291 i39 l41 (l42.set x52.drive.toNat x52.vol)


def cellarerlaw22_MountsDone.l10 (l36 : List Int) (i39 : Int) (i40 : Int) (l41 : List Bool) (l42 : List Int) (rec43 : ((List Int) × Int × Int × (List Bool) × (List Int)) → Option Bool) (x52 : Move) (rec418 : Int → Option Bool) : Int → Option Bool
  | i417 =>
    if decide (i417 < (l36.length : Int)) then
      bd (ix l36 i417) fun x420 =>
      if decide (x420 = x52.vol) then
        some false
      else
        rec418 (wr (i417 + 1))
    else
      cellarerlaw22_MountsDone.k9 l36 i39 i40 l41 l42 rec43 x52


def cellarerlaw22_MountsDone.l4 (x1 : List Read) (r7 : (List Move) × Int) (rec43 : ((List Int) × Int × Int × (List Bool) × (List Int)) → Option Bool) : ((List Int) × Int × Int × (List Bool) × (List Int)) → Option Bool
  | (l36, i39, i40, l41, l42) =>
    if decide (i40 < (r7.1.length : Int)) then
      bd (ix r7.1 i40) fun x52 =>
      if (decide (x52.drive < 0) || decide ((l42.length : Int) ≤ x52.drive)) then
        some false
      else
        if decide (x52.kind = 1) then
          loop (cellarerlaw22_MountsDone.l10 l36 i39 i40 l41 l42 rec43 x52) 0
        else
          cellarerlaw22_MountsDone.k6 x1 l36 i39 i40 l41 l42 rec43 x52
    else
      cellarerlaw22_MountsDone.k3 x1 i39


def cellarerlaw22_MountsDone.k2 (x0 : List Int) (x1 : List Read) : Option Bool :=
  bd (mounts_Moves x0 x1) fun r7 =>
  bd (only (!decide (r7.2 ≠ 0)) (mounts_Bound x1) 0) fun r9 =>
  bd (only (!(decide (r7.2 ≠ 0) || decide (r9 < (r7.1.length : Int)))) (mounts_Bound x1) 0) fun r10 =>
  bd (only (!(decide (r7.2 ≠ 0) || decide (r9 < (r7.1.length : Int)))) (cellarerref20_Vols x1) []) fun r11 =>
  if ((decide (r7.2 ≠ 0) || decide (r9 < (r7.1.length : Int))) || decide (r10 ≠ wr ((x1.length : Int) + (r11.length : Int)))) then
    some false
  else
    bd (cellarerkeep_TwinInts x0) fun r24 =>
    bd (rep (x1.length : Int) false) fun l26 =>
    loop (cellarerlaw22_MountsDone.l4 x1 r7) ([], 0, 0, l26, r24)


def cellarerlaw22_MountsDone.l11 (x0 : List Int) (x1 : List Read) (rec435 : Int → Option Bool) : Int → Option Bool
  | i434 =>
    if decide (i434 < (x1.length : Int)) then
      bd (ix x1 i434) fun x437 =>
      if decide (x437.loc.vol < 0) then
        some true
      else
        rec435 (wr (i434 + 1))
    else
      cellarerlaw22_MountsDone.k2 x0 x1


def cellarerlaw22_MountsDone.k1 (x0 : List Int) (x1 : List Read) : Option Bool :=
  loop (cellarerlaw22_MountsDone.l11 x0 x1) 0


def cellarerlaw22_MountsDone.k13 (i442 : Int) (rec443 : Int → Option Bool) : Option Bool :=
  rec443 (wr (i442 + 1))


def cellarerlaw22_MountsDone.l14 (x0 : List Int) (i442 : Int) (rec443 : Int → Option Bool) (rec448 : Int → Option Bool) : Int → Option Bool
  | i447 =>
    if decide (i447 < i442) then
      bd (ix x0 i442) fun x450 =>
      bd (only (decide (0 ≤ x450)) (ix x0 i442) 0) fun x452 =>
      bd (only (decide (0 ≤ x450)) (ix x0 i447) 0) fun x454 =>
      if (decide (0 ≤ x450) && decide (x452 = x454)) then
        some true
      else
        rec448 (wr (i447 + 1))
    else
      cellarerlaw22_MountsDone.k13 i442 rec443


def cellarerlaw22_MountsDone.l12 (x0 : List Int) (x1 : List Read) (rec443 : Int → Option Bool) : Int → Option Bool
  | i442 =>
    if decide (i442 < (x0.length : Int)) then
      loop (cellarerlaw22_MountsDone.l14 x0 i442 rec443) 0
    else
      cellarerlaw22_MountsDone.k1 x0 x1

def cellarerlaw22_MountsDone (x0 : List Int) (x1 : List Read) : Option Bool :=
  if ((decide ((x0.length : Int) < 1) || decide (4 < (x0.length : Int))) || decide (60 < (x1.length : Int))) then
    some true
  else
    loop (cellarerlaw22_MountsDone.l12 x0 x1) 0

theorem cellarerlaw22_MountsDone_ok {F : Frz} {w : World} {x0 : List Int} {x1 : List Read} {r : Bool} {v0 : Value} {v1 : Value} (hA : Agree F w.heap) (h0 : SlF tI F v0 x0) (h1 : SlF Read.t F v1 x1) (H : cellarerlaw22_MountsDone x0 x1 = some r) : Ret Try.prog 4 #[v0, v1] w fun v w' => ∃ (F' : Frz), v = .bool r ∧ St [] w F F' [] w' := by
 refine Ret_of (args := [v0, v1]) Go.Proofs.Try.func4 rfl rfl ?_
 change C _ _ _ _ [(0, v0), (1, v1)] _
 have hS := St.entry hA
 dsimp only [cellarerlaw22_MountsDone] at H
 refine C_seq ?_
 refine C_region ?_
 refine W_assign rfl rfl ?_
 refine W_nil ?_
 refine N_code ?_
 refine C_seq ?_
 refine C_seq ?_
 refine C_join (fun E wq => E = [(0, v0), (1, v1), (30, .bool ((decide ((x0.length : Int) < 1) || decide (4 < (x0.length : Int))) || decide (60 < (x1.length : Int))))] ∧ ∃ F1 : Frz, F.le F1 ∧ St [] w F F1 [] wq) ?_ ?_
 ·
  rcases Bool.eq_false_or_eq_true (decide ((x0.length : Int) < 1)) with hb2 | hb2
  ·
   refine C_region ?_
   refine W_move rfl rfl ?_
   refine W_lenv rfl Go.Proofs.Try.underlying22 rfl h0.ln ?_
   refine W_lss rfl rfl rfl ?_
   refine W_move rfl rfl ?_
   refine W_known (t := 21) true rfl hb2 ?_
   refine W_guard_no rfl rfl rfl rfl rfl ?_
   refine W_guard_no rfl rfl rfl rfl rfl ?_
   refine W_guard_no rfl rfl rfl rfl rfl ?_
   refine W_pick_t rfl rfl rfl ?_
   refine W_move rfl rfl ?_
   refine W_guard_no rfl rfl rfl rfl rfl ?_
   refine W_guard_no rfl rfl rfl rfl rfl ?_
   refine W_guard_no rfl rfl rfl rfl rfl ?_
   refine W_pick_t rfl rfl rfl ?_
   refine W_nil ?_
   exact N_join _ ⟨rfl, F, (Frz.le.refl _), hS⟩ ⟨rfl, rfl, (look_bool rfl (by first | rfl | (rw [hb2]; first | done | rfl) | simp [hb2])), trivial⟩
  ·
   rcases Bool.eq_false_or_eq_true (decide (4 < (x0.length : Int))) with hb3 | hb3
   ·
    refine C_region ?_
    refine W_move rfl rfl ?_
    refine W_lenv rfl Go.Proofs.Try.underlying22 rfl h0.ln ?_
    refine W_lss rfl rfl rfl ?_
    refine W_move rfl rfl ?_
    refine W_known (t := 21) false rfl hb2 ?_
    refine W_guard_yes rfl ?_
    refine W_move rfl rfl ?_
    refine W_guard_yes rfl ?_
    refine W_lenv rfl Go.Proofs.Try.underlying22 rfl h0.ln ?_
    refine W_guard_yes rfl ?_
    refine W_gtr rfl rfl rfl ?_
    refine W_pick_f rfl rfl rfl ?_
    refine W_move rfl rfl ?_
    refine W_known (t := 26) true rfl hb3 ?_
    refine W_guard_no rfl rfl rfl rfl rfl ?_
    refine W_guard_no rfl rfl rfl rfl rfl ?_
    refine W_guard_no rfl rfl rfl rfl rfl ?_
    refine W_pick_t rfl rfl rfl ?_
    refine W_nil ?_
    exact N_join _ ⟨rfl, F, (Frz.le.refl _), hS⟩ ⟨rfl, rfl, (look_bool rfl (by first | rfl | (rw [hb2, hb3]; first | done | rfl) | simp [hb2, hb3])), trivial⟩
   ·
    refine C_region ?_
    refine W_move rfl rfl ?_
    refine W_lenv rfl Go.Proofs.Try.underlying22 rfl h0.ln ?_
    refine W_lss rfl rfl rfl ?_
    refine W_move rfl rfl ?_
    refine W_known (t := 21) false rfl hb2 ?_
    refine W_guard_yes rfl ?_
    refine W_move rfl rfl ?_
    refine W_guard_yes rfl ?_
    refine W_lenv rfl Go.Proofs.Try.underlying22 rfl h0.ln ?_
    refine W_guard_yes rfl ?_
    refine W_gtr rfl rfl rfl ?_
    refine W_pick_f rfl rfl rfl ?_
    refine W_move rfl rfl ?_
    refine W_known (t := 26) false rfl hb3 ?_
    refine W_guard_yes rfl ?_
    refine W_move rfl rfl ?_
    refine W_guard_yes rfl ?_
    refine W_lenv rfl Go.Proofs.Try.underlying23 rfl h1.ln ?_
    refine W_guard_yes rfl ?_
    refine W_gtr rfl rfl rfl ?_
    refine W_pick_f rfl rfl rfl ?_
    refine W_nil ?_
    exact N_join _ ⟨rfl, F, (Frz.le.refl _), hS⟩ ⟨rfl, rfl, (look_bool rfl (by first | rfl | (rw [hb2, hb3]; first | done | rfl) | simp [hb2, hb3])), trivial⟩
 rintro E w1 ⟨rfl, F1, le1, hS1⟩
 refine N_code ?_
 refine C_cond rfl (fun hc4 => ?_) (fun hc4 => ?_)
 ·
  rw [if_t hc4] at H
  refine C_seq ?_
  refine C_region ?_
  refine W_assign rfl rfl ?_
  refine W_nil ?_
  refine N_code ?_
  obtain rfl := Option.some.inj H
  refine C_ret rfl rfl ?_
  exact ⟨F1, rfl, hS1⟩
 ·
  rw [if_f hc4] at H
  refine C_skip ?_
  refine N_code ?_
  refine C_seq_join (fun E wq => cellarerlaw22_MountsDone.k1 x0 x1 = some r ∧ ∃ (F5 : Frz), E = [(0, v0), (1, v1)] ∧ F1.le F5 ∧ St [] w F F5 [] wq) ?_ ?_
  ·
   refine C_seq ?_
   refine C_region ?_
   refine W_assign rfl rfl ?_
   refine W_nil ?_
   refine N_code ?_
   refine C_block ?_
   refine C_loopM (fun (s : Int) E wq => ∃ (F441 : Frz), E = [(0, v0), (1, v1), (5, .int .i64 s)] ∧ F1.le F441 ∧ St [] w F F441 [] wq) H ?_ ?_
   ·
    exact ⟨_, ⟨F1, rfl, (Frz.le.refl _), hS1⟩, ⟨rfl, rfl, rfl, trivial⟩⟩
   ·
    rintro rec443 i442 E w441 hI H
    try dsimp only at hI
    obtain ⟨F441, rfl, le441, hS441⟩ := hI
    dsimp only [cellarerlaw22_MountsDone.l12] at H
    refine C_seq ?_
    refine C_seq ?_
    refine C_region ?_
    refine W_move rfl rfl ?_
    refine W_move rfl rfl ?_
    refine W_lenv rfl Go.Proofs.Try.underlying22 rfl h0.ln ?_
    refine W_lss rfl rfl rfl ?_
    refine W_nil ?_
    refine N_code ?_
    refine C_cond rfl (fun hc444 => ?_) (fun hc444 => ?_)
    ·
     rw [if_t hc444] at H
     refine C_skip ?_
     refine N_code ?_
     refine C_seq_join (fun E wq => cellarerlaw22_MountsDone.k13 i442 rec443 = some r ∧ ∃ (F445 : Frz), E = [(0, v0), (1, v1), (5, .int .i64 i442)] ∧ F441.le F445 ∧ St [] w F F445 [] wq) ?_ ?_
     ·
      refine C_block ?_
      refine C_seq ?_
      refine C_region ?_
      refine W_assign rfl rfl ?_
      refine W_nil ?_
      refine N_code ?_
      refine C_block ?_
      refine C_loopM (fun (s : Int) E wq => ∃ (F446 : Frz), E = [(0, v0), (1, v1), (5, .int .i64 i442), (6, .int .i64 s)] ∧ F441.le F446 ∧ St [] w F F446 [] wq) H ?_ ?_
      ·
       exact ⟨_, ⟨F441, rfl, (Frz.le.refl _), hS441⟩, ⟨rfl, rfl, rfl, rfl, trivial⟩⟩
      ·
       rintro rec448 i447 E w446 hI H
       try dsimp only at hI
       obtain ⟨F446, rfl, le446, hS446⟩ := hI
       dsimp only [cellarerlaw22_MountsDone.l14] at H
       refine C_seq ?_
       refine C_seq ?_
       refine C_region ?_
       refine W_move rfl rfl ?_
       refine W_move rfl rfl ?_
       refine W_lss rfl rfl rfl ?_
       refine W_nil ?_
       refine N_code ?_
       refine C_cond rfl (fun hc449 => ?_) (fun hc449 => ?_)
       ·
        rw [if_t hc449] at H
        refine C_skip ?_
        refine N_code ?_
        refine C_seq ?_
        refine C_block ?_
        refine C_seq ?_
        obtain ⟨x450, hx450, H⟩ := bd_some H
        obtain ⟨x452, hx452, H⟩ := bd_some H
        obtain ⟨x454, hx454, H⟩ := bd_some H
        refine C_join (fun E wq => E = [(0, v0), (1, v1), (5, .int .i64 i442), (6, .int .i64 i447), (57, .bool (decide (0 ≤ x450) && decide (x452 = x454)))] ∧ ∃ F456 : Frz, F446.le F456 ∧ St [] w F F456 [] wq) ?_ ?_
        ·
         rcases Bool.eq_false_or_eq_true (decide (0 ≤ x450)) with hb457 | hb457
         ·
          obtain ⟨hp458, hy458⟩ := ix_some hx450
          obtain ⟨cs458, hr458, he458⟩ := (h0.mono ((le1.trans le441).trans le446)).at_ hy458
          obtain rfl := hr458
          replace he458 : Elf _ _ 1 _ _ := he458
          have hy459 := hx452
          rw [only_t hb457] at hy459
          obtain ⟨hp460, hy460⟩ := ix_some hy459
          obtain ⟨cs460, hr460, he460⟩ := (h0.mono ((le1.trans le441).trans le446)).at_ hy460
          obtain rfl := hr460
          replace he460 : Elf _ _ 1 _ _ := he460
          have hy461 := hx454
          rw [only_t hb457] at hy461
          obtain ⟨hp462, hy462⟩ := ix_some hy461
          obtain ⟨cs462, hr462, he462⟩ := (h0.mono ((le1.trans le441).trans le446)).at_ hy462
          obtain rfl := hr462
          replace he462 : Elf _ _ 1 _ _ := he462
          apply C_draw 15 [[], [], [0, 1], [2], [3], [4], [5], [5], [6, 7, 5], [8, 5], [5], [5], [10, 11, 5], [12, 5], [9, 13, 5]] [.val (v0), .val (.int .i64 i442), .val (elp v0 (i442.toNat * 1)), .val (.int .i64 x450), .val (.bool (decide (0 ≤ x450))), .val (.bool true), .val (v0), .val (.int .i64 i442), .val (elp v0 (i442.toNat * 1)), .val (.int .i64 x452), .val (v0), .val (.int .i64 i447), .val (elp v0 (i447.toNat * 1)), .val (.int .i64 x454), .val (.bool (decide (x452 = x454)))] Ty.mixed rfl rfl (by kernel_rfl) (by kernel_rfl) rfl
          ·
           refine ⟨?_, ?_, ?_, ?_, ?_, ?_, ?_, ?_, ?_, ?_, ?_, ?_, ?_, ?_, ?_, trivial⟩
           ·
            intro w463 vq463 hB463 hH463
            have hS463 := hS446.below hB463
            refine W_move rfl rfl ?_
            refine W_nil ?_
            exact N_step rfl rfl (Below.refl _ _)
           ·
            intro w464 vq464 hB464 hH464
            have hS464 := hS446.below hB464
            refine W_move rfl rfl ?_
            refine W_nil ?_
            exact N_step rfl rfl (Below.refl _ _)
           ·
            intro w465 vq465 hB465 hH465
            have hS465 := hS446.below hB465
            refine W_ix rfl Go.Proofs.Try.underlying22 Ty.cells3 Ty.info3 rfl rfl (he458.el hS465.agree) hp458 rfl ?_
            refine W_nil ?_
            exact N_step rfl rfl (Below.refl _ _)
           ·
            intro w466 vq466 hB466 hH466
            have hS466 := hS446.below hB466
            refine W_ld1 0 rfl Ty.cell3 rfl (he458.el hS466.agree) (by omega) rfl ?_
            refine W_nil ?_
            exact N_step rfl rfl (Below.refl _ _)
           ·
            intro w467 vq467 hB467 hH467
            have hS467 := hS446.below hB467
            refine W_geq rfl rfl rfl ?_
            refine W_nil ?_
            exact N_step rfl rfl (Below.refl _ _)
           ·
            intro w468 vq468 hB468 hH468
            have hS468 := hS446.below hB468
            refine W_move rfl rfl ?_
            refine W_nil ?_
            exact N_step rfl (congrArg Value.bool hb457) (Below.refl _ _)
           ·
            intro w469 vq469 hB469 hH469
            have hS469 := hS446.below hB469
            refine W_guard_yes rfl ?_
            refine W_move rfl rfl ?_
            refine W_nil ?_
            exact N_step rfl rfl (Below.refl _ _)
           ·
            intro w470 vq470 hB470 hH470
            have hS470 := hS446.below hB470
            refine W_guard_yes rfl ?_
            refine W_move rfl rfl ?_
            refine W_nil ?_
            exact N_step rfl rfl (Below.refl _ _)
           ·
            intro w471 vq471 hB471 hH471
            have hS471 := hS446.below hB471
            refine W_guard_yes rfl ?_
            refine W_ix rfl Go.Proofs.Try.underlying22 Ty.cells3 Ty.info3 rfl rfl (he460.el hS471.agree) hp460 rfl ?_
            refine W_nil ?_
            exact N_step rfl rfl (Below.refl _ _)
           ·
            intro w472 vq472 hB472 hH472
            have hS472 := hS446.below hB472
            refine W_guard_yes rfl ?_
            refine W_ld1 0 rfl Ty.cell3 rfl (he460.el hS472.agree) (by omega) rfl ?_
            refine W_nil ?_
            exact N_step rfl rfl (Below.refl _ _)
           ·
            intro w473 vq473 hB473 hH473
            have hS473 := hS446.below hB473
            refine W_guard_yes rfl ?_
            refine W_move rfl rfl ?_
            refine W_nil ?_
            exact N_step rfl rfl (Below.refl _ _)
           ·
            intro w474 vq474 hB474 hH474
            have hS474 := hS446.below hB474
            refine W_guard_yes rfl ?_
            refine W_move rfl rfl ?_
            refine W_nil ?_
            exact N_step rfl rfl (Below.refl _ _)
           ·
            intro w475 vq475 hB475 hH475
            have hS475 := hS446.below hB475
            refine W_guard_yes rfl ?_
            refine W_ix rfl Go.Proofs.Try.underlying22 Ty.cells3 Ty.info3 rfl rfl (he462.el hS475.agree) hp462 rfl ?_
            refine W_nil ?_
            exact N_step rfl rfl (Below.refl _ _)
           ·
            intro w476 vq476 hB476 hH476
            have hS476 := hS446.below hB476
            refine W_guard_yes rfl ?_
            refine W_ld1 0 rfl Ty.cell3 rfl (he462.el hS476.agree) (by omega) rfl ?_
            refine W_nil ?_
            exact N_step rfl rfl (Below.refl _ _)
           ·
            intro w477 vq477 hB477 hH477
            have hS477 := hS446.below hB477
            refine W_guard_yes rfl ?_
            refine W_eql rfl rfl rfl ?_
            refine W_nil ?_
            exact N_step rfl rfl (Below.refl _ _)
          intro w478 vq478 hB478 hH478
          have hS478 := hS446.below hB478
          refine W_pick_t rfl rfl rfl ?_
          refine W_nil ?_
          exact N_join _ ⟨rfl, F446, (Frz.le.refl _), hS478⟩ ⟨rfl, rfl, rfl, rfl, (look_bool rfl (by first | rfl | (rw [hb457]; first | done | rfl) | simp [hb457])), trivial⟩
         ·
          obtain ⟨hp479, hy479⟩ := ix_some hx450
          obtain ⟨cs479, hr479, he479⟩ := (h0.mono ((le1.trans le441).trans le446)).at_ hy479
          obtain rfl := hr479
          replace he479 : Elf _ _ 1 _ _ := he479
          apply C_draw 15 [[], [], [0, 1], [2], [3], [4], [5], [5], [6, 7, 5], [8, 5], [5], [5], [10, 11, 5], [12, 5], [9, 13, 5]] [.val (v0), .val (.int .i64 i442), .val (elp v0 (i442.toNat * 1)), .val (.int .i64 x450), .val (.bool (decide (0 ≤ x450))), .val (.bool false), .val undef, .val undef, .val undef, .val undef, .val undef, .val undef, .val undef, .val undef, .val undef] Ty.mixed rfl rfl (by kernel_rfl) (by kernel_rfl) rfl
          ·
           refine ⟨?_, ?_, ?_, ?_, ?_, ?_, ?_, ?_, ?_, ?_, ?_, ?_, ?_, ?_, ?_, trivial⟩
           ·
            intro w480 vq480 hB480 hH480
            have hS480 := hS446.below hB480
            refine W_move rfl rfl ?_
            refine W_nil ?_
            exact N_step rfl rfl (Below.refl _ _)
           ·
            intro w481 vq481 hB481 hH481
            have hS481 := hS446.below hB481
            refine W_move rfl rfl ?_
            refine W_nil ?_
            exact N_step rfl rfl (Below.refl _ _)
           ·
            intro w482 vq482 hB482 hH482
            have hS482 := hS446.below hB482
            refine W_ix rfl Go.Proofs.Try.underlying22 Ty.cells3 Ty.info3 rfl rfl (he479.el hS482.agree) hp479 rfl ?_
            refine W_nil ?_
            exact N_step rfl rfl (Below.refl _ _)
           ·
            intro w483 vq483 hB483 hH483
            have hS483 := hS446.below hB483
            refine W_ld1 0 rfl Ty.cell3 rfl (he479.el hS483.agree) (by omega) rfl ?_
            refine W_nil ?_
            exact N_step rfl rfl (Below.refl _ _)
           ·
            intro w484 vq484 hB484 hH484
            have hS484 := hS446.below hB484
            refine W_geq rfl rfl rfl ?_
            refine W_nil ?_
            exact N_step rfl rfl (Below.refl _ _)
           ·
            intro w485 vq485 hB485 hH485
            have hS485 := hS446.below hB485
            refine W_move rfl rfl ?_
            refine W_nil ?_
            exact N_step rfl (congrArg Value.bool hb457) (Below.refl _ _)
           ·
            intro w486 vq486 hB486 hH486
            have hS486 := hS446.below hB486
            refine W_guard_no rfl rfl rfl rfl rfl ?_
            refine W_nil ?_
            exact N_step rfl rfl (Below.refl _ _)
           ·
            intro w487 vq487 hB487 hH487
            have hS487 := hS446.below hB487
            refine W_guard_no rfl rfl rfl rfl rfl ?_
            refine W_nil ?_
            exact N_step rfl rfl (Below.refl _ _)
           ·
            intro w488 vq488 hB488 hH488
            have hS488 := hS446.below hB488
            refine W_guard_no rfl rfl rfl rfl rfl ?_
            refine W_nil ?_
            exact N_step rfl rfl (Below.refl _ _)
           ·
            intro w489 vq489 hB489 hH489
            have hS489 := hS446.below hB489
            refine W_guard_no rfl rfl rfl rfl rfl ?_
            refine W_nil ?_
            exact N_step rfl rfl (Below.refl _ _)
           ·
            intro w490 vq490 hB490 hH490
            have hS490 := hS446.below hB490
            refine W_guard_no rfl rfl rfl rfl rfl ?_
            refine W_nil ?_
            exact N_step rfl rfl (Below.refl _ _)
           ·
            intro w491 vq491 hB491 hH491
            have hS491 := hS446.below hB491
            refine W_guard_no rfl rfl rfl rfl rfl ?_
            refine W_nil ?_
            exact N_step rfl rfl (Below.refl _ _)
           ·
            intro w492 vq492 hB492 hH492
            have hS492 := hS446.below hB492
            refine W_guard_no rfl rfl rfl rfl rfl ?_
            refine W_nil ?_
            exact N_step rfl rfl (Below.refl _ _)
           ·
            intro w493 vq493 hB493 hH493
            have hS493 := hS446.below hB493
            refine W_guard_no rfl rfl rfl rfl rfl ?_
            refine W_nil ?_
            exact N_step rfl rfl (Below.refl _ _)
           ·
            intro w494 vq494 hB494 hH494
            have hS494 := hS446.below hB494
            refine W_guard_no rfl rfl rfl rfl rfl ?_
            refine W_nil ?_
            exact N_step rfl rfl (Below.refl _ _)
          intro w495 vq495 hB495 hH495
          have hS495 := hS446.below hB495
          refine W_pick_f rfl rfl rfl ?_
          refine W_nil ?_
          exact N_join _ ⟨rfl, F446, (Frz.le.refl _), hS495⟩ ⟨rfl, rfl, rfl, rfl, (look_bool rfl (by first | rfl | (rw [hb457]; first | done | rfl) | simp [hb457])), trivial⟩
        rintro E w456 ⟨rfl, F456, le456, hS456⟩
        refine N_code ?_
        refine C_cond rfl (fun hc496 => ?_) (fun hc496 => ?_)
        ·
         rw [if_t hc496] at H
         refine C_seq ?_
         refine C_region ?_
         refine W_assign rfl rfl ?_
         refine W_nil ?_
         refine N_code ?_
         obtain rfl := Option.some.inj H
         refine C_ret rfl rfl ?_
         exact ⟨F456, rfl, hS456⟩
        ·
         rw [if_f hc496] at H
         refine C_skip ?_
         refine N_block ?_
         refine N_code ?_
         refine C_region ?_
         refine W_move rfl rfl ?_
         refine W_add rfl rfl rfl rfl ?_
         refine W_assign rfl rfl ?_
         refine W_nil ?_
         exact N_againM (wr (i447 + 1)) _ H ⟨F456, rfl, (le446.trans le456), hS456⟩ ⟨rfl, rfl, rfl, rfl, trivial⟩
       ·
        rw [if_f hc449] at H
        refine C_exit _ rfl ?_
        refine N_block ?_
        exact N_join _ ⟨H, ⟨F446, rfl, le446, hS446⟩⟩ ⟨rfl, rfl, rfl, trivial⟩
     ·
      rintro E w445 ⟨H, F445, rfl, le445, hS445⟩
      dsimp only [cellarerlaw22_MountsDone.k13] at H
      refine C_region ?_
      refine W_move rfl rfl ?_
      refine W_add rfl rfl rfl rfl ?_
      refine W_assign rfl rfl ?_
      refine W_nil ?_
      exact N_againM (wr (i442 + 1)) _ H ⟨F445, rfl, (le441.trans le445), hS445⟩ ⟨rfl, rfl, rfl, trivial⟩
    ·
     rw [if_f hc444] at H
     refine C_exit _ rfl ?_
     exact N_join _ ⟨H, ⟨F441, rfl, le441, hS441⟩⟩ ⟨rfl, rfl, trivial⟩
  ·
   rintro E w5 ⟨H, F5, rfl, le5, hS5⟩
   dsimp only [cellarerlaw22_MountsDone.k1] at H
   refine C_seq_join (fun E wq => cellarerlaw22_MountsDone.k2 x0 x1 = some r ∧ ∃ (F6 : Frz), E = [(0, v0), (1, v1)] ∧ F5.le F6 ∧ St [] w F F6 [] wq) ?_ ?_
   ·
    refine C_seq ?_
    refine C_region ?_
    refine W_assign rfl rfl ?_
    refine W_nil ?_
    refine N_code ?_
    refine C_block ?_
    refine C_loopM (fun (s : Int) E wq => ∃ (F433 : Frz), E = [(0, v0), (1, v1), (7, .int .i64 s)] ∧ F5.le F433 ∧ St [] w F F433 [] wq) H ?_ ?_
    ·
     exact ⟨_, ⟨F5, rfl, (Frz.le.refl _), hS5⟩, ⟨rfl, rfl, rfl, trivial⟩⟩
    ·
     rintro rec435 i434 E w433 hI H
     try dsimp only at hI
     obtain ⟨F433, rfl, le433, hS433⟩ := hI
     dsimp only [cellarerlaw22_MountsDone.l11] at H
     refine C_seq ?_
     refine C_seq ?_
     refine C_region ?_
     refine W_move rfl rfl ?_
     refine W_move rfl rfl ?_
     refine W_lenv rfl Go.Proofs.Try.underlying23 rfl h1.ln ?_
     refine W_lss rfl rfl rfl ?_
     refine W_nil ?_
     refine N_code ?_
     refine C_cond rfl (fun hc436 => ?_) (fun hc436 => ?_)
     ·
      rw [if_t hc436] at H
      refine C_skip ?_
      refine N_code ?_
      refine C_seq ?_
      refine C_block ?_
      refine C_seq ?_
      obtain ⟨x437, hx437, H⟩ := bd_some H
      refine C_region ?_
      refine W_move rfl rfl ?_
      refine W_move rfl rfl ?_
      obtain ⟨hp439, hy439⟩ := ix_some hx437
      obtain ⟨cs439, hr439, he439⟩ := (h1.mono ((le1.trans le5).trans le433)).at_ hy439
      obtain rfl := hr439
      replace he439 : Elf _ _ 5 _ _ := he439
      refine W_ix rfl Go.Proofs.Try.underlying23 Ty.cells39 Ty.info39 rfl rfl (he439.el hS433.agree) hp439 rfl ?_
      refine W_fld 1 rfl Ty.field39_1 rfl (he439.el hS433.agree) ?_
      refine W_fld 0 rfl Ty.field37_0 rfl (he439.el hS433.agree) ?_
      refine W_ld1 1 rfl Ty.cell3 rfl (he439.el hS433.agree) (by omega) rfl ?_
      refine W_lss rfl rfl rfl ?_
      refine W_nil ?_
      refine N_code ?_
      refine C_cond rfl (fun hc440 => ?_) (fun hc440 => ?_)
      ·
       rw [if_t hc440] at H
       refine C_seq ?_
       refine C_region ?_
       refine W_assign rfl rfl ?_
       refine W_nil ?_
       refine N_code ?_
       obtain rfl := Option.some.inj H
       refine C_ret rfl rfl ?_
       exact ⟨F433, rfl, hS433⟩
      ·
       rw [if_f hc440] at H
       refine C_skip ?_
       refine N_block ?_
       refine N_code ?_
       refine C_region ?_
       refine W_move rfl rfl ?_
       refine W_add rfl rfl rfl rfl ?_
       refine W_assign rfl rfl ?_
       refine W_nil ?_
       exact N_againM (wr (i434 + 1)) _ H ⟨F433, rfl, le433, hS433⟩ ⟨rfl, rfl, rfl, trivial⟩
     ·
      rw [if_f hc436] at H
      refine C_exit _ rfl ?_
      exact N_join _ ⟨H, ⟨F433, rfl, le433, hS433⟩⟩ ⟨rfl, rfl, trivial⟩
   ·
    rintro E w6 ⟨H, F6, rfl, le6, hS6⟩
    dsimp only [cellarerlaw22_MountsDone.k2] at H
    refine C_seq ?_
    obtain ⟨r7, hr7, H⟩ := bd_some H
    refine C_region ?_
    refine W_move rfl rfl ?_
    refine W_move rfl rfl ?_
    refine W_call rfl Ty.named16 rfl (mounts_Moves_ok hS6.agree (h0.mono ((le1.trans le5).trans le6)) (h1.mono ((le1.trans le5).trans le6)) hr7) ?_
    rintro v8 w8 ⟨Fr7, ur7_0, rfl, hT8⟩
    have hS8 := hS6.call hT8
    have ler7 := hT8.ext
    refine W_move rfl rfl ?_
    refine W_extract rfl rfl rfl ?_
    refine W_extract rfl rfl rfl ?_
    refine W_assign rfl rfl ?_
    refine W_assign rfl rfl ?_
    refine W_nil ?_
    refine N_code ?_
    refine C_seq ?_
    refine C_seq ?_
    obtain ⟨r9, hr9, H⟩ := bd_some H
    obtain ⟨r10, hr10, H⟩ := bd_some H
    obtain ⟨r11, hr11, H⟩ := bd_some H
    refine C_join (fun E wq => E = [(0, v0), (1, v1), (8, ur7_0), (96, .bool ((decide (r7.2 ≠ 0) || decide (r9 < (r7.1.length : Int))) || decide (r10 ≠ wr ((x1.length : Int) + (r11.length : Int)))))] ∧ ∃ F12 : Frz, Fr7.le F12 ∧ St [] w F F12 [.row Move.t 42 ur7_0 r7.1] wq) ?_ ?_
    ·
     rcases Bool.eq_false_or_eq_true (decide (r7.2 ≠ 0)) with hb13 | hb13
     ·
      refine C_region ?_
      refine W_move rfl rfl ?_
      refine W_neq rfl rfl rfl ?_
      refine W_move rfl rfl ?_
      refine W_known (t := 79) true rfl hb13 ?_
      refine W_guard_no rfl rfl rfl rfl rfl ?_
      refine W_guard_no rfl rfl rfl rfl rfl ?_
      refine W_guard_no rfl rfl rfl rfl rfl ?_
      refine W_guard_no rfl rfl rfl rfl rfl ?_
      refine W_guard_no rfl rfl rfl rfl rfl ?_
      refine W_pick_t rfl rfl rfl ?_
      refine W_move rfl rfl ?_
      refine W_guard_no rfl rfl rfl rfl rfl ?_
      refine W_guard_no rfl rfl rfl rfl rfl ?_
      refine W_guard_no rfl rfl rfl rfl rfl ?_
      refine W_guard_no rfl rfl rfl rfl rfl ?_
      refine W_guard_no rfl rfl rfl rfl rfl ?_
      refine W_guard_no rfl rfl rfl rfl rfl ?_
      refine W_guard_no rfl rfl rfl rfl rfl ?_
      refine W_guard_no rfl rfl rfl rfl rfl ?_
      refine W_guard_no rfl rfl rfl rfl rfl ?_
      refine W_pick_t rfl rfl rfl ?_
      refine W_nil ?_
      exact N_join _ ⟨rfl, Fr7, (Frz.le.refl _), hS8⟩ ⟨rfl, rfl, rfl, (look_bool rfl (by first | rfl | (rw [hb13]; first | done | rfl) | simp [hb13])), trivial⟩
     ·
      rcases Bool.eq_false_or_eq_true (decide (r9 < (r7.1.length : Int))) with hb14 | hb14
      ·
       refine C_region ?_
       refine W_move rfl rfl ?_
       refine W_neq rfl rfl rfl ?_
       refine W_move rfl rfl ?_
       refine W_known (t := 79) false rfl hb13 ?_
       refine W_guard_yes rfl ?_
       refine W_move rfl rfl ?_
       refine W_guard_yes rfl ?_
       refine W_lenv rfl Go.Proofs.Try.underlying25 rfl (hS8.rowLn (k := 0) rfl) ?_
       refine W_guard_yes rfl ?_
       refine W_move rfl rfl ?_
       refine W_guard_yes rfl ?_
       have hy15 := hr9
       rw [only_t (by first | rfl | (rw [hb13]; first | done | rfl) | simp [hb13, hb14])] at hy15
       refine W_call rfl Ty.named22 rfl (mounts_Bound_ok hS8.agree (h1.mono (((le1.trans le5).trans le6).trans ler7)) hy15) ?_
       rintro v16 w16 ⟨Fr9, rfl, hT16⟩
       have hS16 := hS8.lent hT16
       refine W_guard_yes rfl ?_
       refine W_gtr rfl rfl rfl ?_
       refine W_pick_f rfl rfl rfl ?_
       refine W_move rfl rfl ?_
       refine W_known (t := 86) true rfl hb14 ?_
       refine W_guard_no rfl rfl rfl rfl rfl ?_
       refine W_guard_no rfl rfl rfl rfl rfl ?_
       refine W_guard_no rfl rfl rfl rfl rfl ?_
       refine W_guard_no rfl rfl rfl rfl rfl ?_
       refine W_guard_no rfl rfl rfl rfl rfl ?_
       refine W_guard_no rfl rfl rfl rfl rfl ?_
       refine W_guard_no rfl rfl rfl rfl rfl ?_
       refine W_guard_no rfl rfl rfl rfl rfl ?_
       refine W_guard_no rfl rfl rfl rfl rfl ?_
       refine W_pick_t rfl rfl rfl ?_
       refine W_nil ?_
       exact N_join _ ⟨rfl, Fr7, (Frz.le.refl _), hS16⟩ ⟨rfl, rfl, rfl, (look_bool rfl (by first | rfl | (rw [hb14, hb13]; first | done | rfl) | simp [hb13, hb14])), trivial⟩
      ·
       refine C_region ?_
       refine W_move rfl rfl ?_
       refine W_neq rfl rfl rfl ?_
       refine W_move rfl rfl ?_
       refine W_known (t := 79) false rfl hb13 ?_
       refine W_guard_yes rfl ?_
       refine W_move rfl rfl ?_
       refine W_guard_yes rfl ?_
       refine W_lenv rfl Go.Proofs.Try.underlying25 rfl (hS8.rowLn (k := 0) rfl) ?_
       refine W_guard_yes rfl ?_
       refine W_move rfl rfl ?_
       refine W_guard_yes rfl ?_
       have hy17 := hr9
       rw [only_t (by first | rfl | (rw [hb13]; first | done | rfl) | simp [hb13, hb14])] at hy17
       refine W_call rfl Ty.named22 rfl (mounts_Bound_ok hS8.agree (h1.mono (((le1.trans le5).trans le6).trans ler7)) hy17) ?_
       rintro v18 w18 ⟨Fr9, rfl, hT18⟩
       have hS18 := hS8.lent hT18
       refine W_guard_yes rfl ?_
       refine W_gtr rfl rfl rfl ?_
       refine W_pick_f rfl rfl rfl ?_
       refine W_move rfl rfl ?_
       refine W_known (t := 86) false rfl hb14 ?_
       refine W_guard_yes rfl ?_
       refine W_move rfl rfl ?_
       refine W_guard_yes rfl ?_
       have hy19 := hr10
       rw [only_t (by first | rfl | (rw [hb14, hb13]; first | done | rfl) | simp [hb13, hb14])] at hy19
       refine W_call rfl Ty.named22 rfl (mounts_Bound_ok hS18.agree (h1.mono (((le1.trans le5).trans le6).trans ler7)) hy19) ?_
       rintro v20 w20 ⟨Fr10, rfl, hT20⟩
       have hS20 := hS18.lent hT20
       refine W_guard_yes rfl ?_
       refine W_move rfl rfl ?_
       refine W_guard_yes rfl ?_
       refine W_lenv rfl Go.Proofs.Try.underlying23 rfl h1.ln ?_
       refine W_guard_yes rfl ?_
       refine W_move rfl rfl ?_
       refine W_guard_yes rfl ?_
       have hy21 := hr11
       rw [only_t (by first | rfl | (rw [hb14, hb13]; first | done | rfl) | simp [hb13, hb14])] at hy21
       refine W_call rfl Ty.named18 rfl (cellarerref20_Vols_ok hS20.agree (h1.mono (((le1.trans le5).trans le6).trans ler7)) hy21) ?_
       rintro ur11_0 w22 ⟨Fr11, _, rfl, hT22⟩
       have hS22 := hS20.call hT22
       have ler11 := hT22.ext
       refine W_guard_yes rfl ?_
       refine W_lenv rfl Go.Proofs.Try.underlying22 rfl (hS22.rowLn (k := 0) rfl) ?_
       refine W_guard_yes rfl ?_
       refine W_add rfl rfl rfl rfl ?_
       refine W_guard_yes rfl ?_
       refine W_neq rfl rfl rfl ?_
       refine W_pick_f rfl rfl rfl ?_
       refine W_nil ?_
       exact N_join _ ⟨rfl, Fr11, ler11, hS22.pick [1] (by decide)⟩ ⟨rfl, rfl, rfl, (look_bool rfl (by first | rfl | (rw [hb14, hb13]; first | done | rfl) | simp [hb13, hb14])), trivial⟩
    rintro E w12 ⟨rfl, F12, le12, hS12⟩
    refine N_code ?_
    refine C_cond rfl (fun hc23 => ?_) (fun hc23 => ?_)
    ·
     rw [if_t hc23] at H
     refine C_seq ?_
     refine C_region ?_
     refine W_assign rfl rfl ?_
     refine W_nil ?_
     refine N_code ?_
     obtain rfl := Option.some.inj H
     refine C_ret rfl rfl ?_
     exact ⟨F12, rfl, hS12.pick [] (by decide)⟩
    ·
     rw [if_f hc23] at H
     refine C_skip ?_
     refine N_code ?_
     refine C_seq ?_
     obtain ⟨r24, hr24, H⟩ := bd_some H
     refine C_region ?_
     refine W_move rfl rfl ?_
     refine W_call rfl Ty.named15 rfl (cellarerkeep_TwinInts_ok hS12.agree (h0.mono ((((le1.trans le5).trans le6).trans ler7).trans le12)) hr24) ?_
     rintro ur24_0 w25 ⟨Fr24, _, rfl, hT25⟩
     have hS25 := hS12.call hT25
     have ler24 := hT25.ext
     refine W_assign rfl rfl ?_
     refine W_nil ?_
     refine N_code ?_
     refine C_seq ?_
     obtain ⟨l26, hl26, H⟩ := bd_some H
     refine C_region ?_
     refine W_move rfl rfl ?_
     refine W_lenv rfl Go.Proofs.Try.underlying23 rfl h1.ln ?_
     refine W_mk (t := tBool) (x0 := false) rfl Go.Proofs.Try.underlying40 Ty.row4 rfl rfl rfl rfl hS25 rfl hl26 ?_
     intro v27 w27 hS27
     refine W_assign rfl rfl ?_
     refine W_nil ?_
     refine N_code ?_
     refine C_seq ?_
     refine C_region ?_
     refine W_assign rfl rfl ?_
     refine W_nil ?_
     refine N_code ?_
     refine C_seq ?_
     refine C_region ?_
     refine W_assign rfl rfl ?_
     refine W_nil ?_
     refine N_code ?_
     refine C_seq_join (fun E wq => ∃ i29 : Int, cellarerlaw22_MountsDone.k3 x1 i29 = some r ∧ ∃ (F28 : Frz), E = [(1, v1), (13, .int .i64 i29)] ∧ Fr24.le F28 ∧ St [] w F F28 [] wq) ?_ ?_
     ·
      refine C_seq ?_
      refine C_region ?_
      refine W_assign rfl rfl ?_
      refine W_nil ?_
      refine N_code ?_
      refine C_block ?_
      refine C_loopM (fun (s : (List Int) × Int × Int × (List Bool) × (List Int)) E wq => ∃ (F35 : Frz) (u37 : Value), E = [(1, v1), (8, ur7_0), (10, ur24_0), (11, v27), (12, u37), (13, .int .i64 s.2.1), (14, .int .i64 s.2.2.1)] ∧ Fr24.le F35 ∧ St [] w F F35 [.row tBool 4 v27 s.2.2.2.1, .row tI 3 ur24_0 s.2.2.2.2, .row Move.t 42 ur7_0 r7.1, .row tI 3 u37 s.1] wq) H ?_ ?_
      ·
       have hS432 := hS27.nilRow tI 3
       exact ⟨_, ⟨Fr24, (.slice none 0 0), rfl, (Frz.le.refl _), hS432.pick [1, 2, 3, 0] (by decide)⟩, ⟨rfl, rfl, rfl, rfl, rfl, rfl, rfl, trivial⟩⟩
      ·
       rintro rec43 ⟨l36, i39, i40, l41, l42⟩ E w35 hI H
       try dsimp only at hI
       obtain ⟨F35, u37, rfl, le35, hS35⟩ := hI
       dsimp only [cellarerlaw22_MountsDone.l4] at H
       refine C_seq ?_
       refine C_seq ?_
       refine C_region ?_
       refine W_move rfl rfl ?_
       refine W_move rfl rfl ?_
       refine W_lenv rfl Go.Proofs.Try.underlying25 rfl (hS35.rowLn (k := 2) rfl) ?_
       refine W_lss rfl rfl rfl ?_
       refine W_nil ?_
       refine N_code ?_
       refine C_cond rfl (fun hc44 => ?_) (fun hc44 => ?_)
       ·
        rw [if_t hc44] at H
        refine C_skip ?_
        refine N_code ?_
        refine C_seq_join (fun E wq => ∃ l46 : List Int, ∃ i49 : Int, ∃ l50 : List Bool, ∃ l51 : List Int, cellarerlaw22_MountsDone.k5 i40 rec43 l46 i49 l50 l51 = some r ∧ ∃ (F45 : Frz) (u47 : Value), E = [(1, v1), (8, ur7_0), (10, ur24_0), (11, v27), (12, u47), (13, .int .i64 i49), (14, .int .i64 i40)] ∧ F35.le F45 ∧ St [] w F F45 [.row tBool 4 v27 l50, .row tI 3 ur24_0 l51, .row Move.t 42 ur7_0 r7.1, .row tI 3 u47 l46] wq) ?_ ?_
        ·
         refine C_block ?_
         refine C_seq ?_
         obtain ⟨x52, hx52, H⟩ := bd_some H
         refine C_region ?_
         refine W_move rfl rfl ?_
         refine W_move rfl rfl ?_
         obtain ⟨hp55, hy55⟩ := ix_some hx52
         obtain ⟨cs55, hr55, he55⟩ := hS35.rowAt (k := 2) rfl hy55
         obtain rfl := hr55
         replace he55 : El _ _ 7 _ _ := he55
         refine W_ix rfl Go.Proofs.Try.underlying25 Ty.cells42 Ty.info42 rfl rfl he55 hp55 rfl ?_
         refine W_ldg 0 ((Move.cells x52)) rfl Ty.agg42 Ty.size42 rfl he55 (by omega) (fun q u h => sub_at (post := []) rfl h) ?_
         refine W_alc (cs := [.int .i64 0, .int .i64 0, .int .i64 0, .int .i64 0, .int .i64 0, .int .i64 0, .int .i64 0]) rfl Ty.zero42 rfl hS35 ?_
         intro g54 w54 hS54
         refine W_bst (c := [.int .i64 x52.kind, .int .i64 x52.drive, .int .i64 x52.vol, .int .i64 x52.loc.vol, .int .i64 x52.loc.file, .int .i64 x52.loc.off, .int .i64 x52.loc.len]) 0 ([.int .i64 x52.kind, .int .i64 x52.drive, .int .i64 x52.vol, .int .i64 x52.loc.vol, .int .i64 x52.loc.file, .int .i64 x52.loc.off, .int .i64 x52.loc.len]) rfl rfl hS54 rfl rfl Ty.size42 (fun y hy => Move.t.one (F := F35) (x := x52) rfl y hy) (Nat.le_of_ble_eq_true rfl) rfl ?_
         intro w56 hS56
         refine W_nil ?_
         refine N_code ?_
         refine C_seq ?_
         refine C_seq ?_
         refine C_join (fun E wq => E = [(1, v1), (8, ur7_0), (10, ur24_0), (11, v27), (12, u37), (13, .int .i64 i39), (14, .int .i64 i40), (15, pl g54 0), (121, .bool (decide (x52.drive < 0) || decide ((l42.length : Int) ≤ x52.drive)))] ∧ ∃ F57 : Frz, F35.le F57 ∧ St [] w F F57 [.box g54 42 [.int .i64 x52.kind, .int .i64 x52.drive, .int .i64 x52.vol, .int .i64 x52.loc.vol, .int .i64 x52.loc.file, .int .i64 x52.loc.off, .int .i64 x52.loc.len], .row tBool 4 v27 l41, .row tI 3 ur24_0 l42, .row Move.t 42 ur7_0 r7.1, .row tI 3 u37 l36] wq) ?_ ?_
         ·
          rcases Bool.eq_false_or_eq_true (decide (x52.drive < 0)) with hb58 | hb58
          ·
           refine C_region ?_
           refine W_field_pl 1 rfl Ty.field42_1 rfl ?_
           refine W_bld1 0 rfl Ty.cell3 rfl hS56 rfl rfl ?_
           refine W_lss rfl rfl rfl ?_
           refine W_move rfl rfl ?_
           refine W_known (t := 115) true rfl hb58 ?_
           refine W_guard_no rfl rfl rfl rfl rfl ?_
           refine W_guard_no rfl rfl rfl rfl rfl ?_
           refine W_guard_no rfl rfl rfl rfl rfl ?_
           refine W_guard_no rfl rfl rfl rfl rfl ?_
           refine W_guard_no rfl rfl rfl rfl rfl ?_
           refine W_pick_t rfl rfl rfl ?_
           refine W_nil ?_
           exact N_join _ ⟨rfl, F35, (Frz.le.refl _), hS56⟩ ⟨rfl, rfl, rfl, rfl, rfl, rfl, rfl, rfl, (look_bool rfl (by first | rfl | (rw [hb58]; first | done | rfl) | simp [hb58])), trivial⟩
          ·
           refine C_region ?_
           refine W_field_pl 1 rfl Ty.field42_1 rfl ?_
           refine W_bld1 0 rfl Ty.cell3 rfl hS56 rfl rfl ?_
           refine W_lss rfl rfl rfl ?_
           refine W_move rfl rfl ?_
           refine W_known (t := 115) false rfl hb58 ?_
           refine W_guard_yes rfl ?_
           refine W_field_pl 1 rfl Ty.field42_1 rfl ?_
           refine W_guard_yes rfl ?_
           refine W_bld1 0 rfl Ty.cell3 rfl hS56 rfl rfl ?_
           refine W_guard_yes rfl ?_
           refine W_move rfl rfl ?_
           refine W_guard_yes rfl ?_
           refine W_lenv rfl Go.Proofs.Try.underlying22 rfl (hS56.rowLn (k := 2) rfl) ?_
           refine W_guard_yes rfl ?_
           refine W_geq rfl rfl rfl ?_
           refine W_pick_f rfl rfl rfl ?_
           refine W_nil ?_
           exact N_join _ ⟨rfl, F35, (Frz.le.refl _), hS56⟩ ⟨rfl, rfl, rfl, rfl, rfl, rfl, rfl, rfl, (look_bool rfl (by first | rfl | (rw [hb58]; first | done | rfl) | simp [hb58])), trivial⟩
         rintro E w57 ⟨rfl, F57, le57, hS57⟩
         refine N_code ?_
         refine C_cond rfl (fun hc59 => ?_) (fun hc59 => ?_)
         ·
          rw [if_t hc59] at H
          refine C_seq ?_
          refine C_region ?_
          refine W_assign rfl rfl ?_
          refine W_nil ?_
          refine N_code ?_
          obtain rfl := Option.some.inj H
          refine C_ret rfl rfl ?_
          exact ⟨F57, rfl, hS57.pick [] (by decide)⟩
         ·
          rw [if_f hc59] at H
          refine C_skip ?_
          refine N_code ?_
          refine C_seq_join (fun E wq => cellarerlaw22_MountsDone.k6 x1 l36 i39 i40 l41 l42 rec43 x52 = some r ∧ ∃ (F60 : Frz), E = [(1, v1), (8, ur7_0), (10, ur24_0), (11, v27), (12, u37), (13, .int .i64 i39), (14, .int .i64 i40), (15, pl g54 0)] ∧ F57.le F60 ∧ St [] w F F60 [.box g54 42 [.int .i64 x52.kind, .int .i64 x52.drive, .int .i64 x52.vol, .int .i64 x52.loc.vol, .int .i64 x52.loc.file, .int .i64 x52.loc.off, .int .i64 x52.loc.len], .row tBool 4 v27 l41, .row tI 3 ur24_0 l42, .row Move.t 42 ur7_0 r7.1, .row tI 3 u37 l36] wq) ?_ ?_
          ·
           refine C_seq ?_
           refine C_region ?_
           refine W_field_pl 0 rfl Ty.field42_0 rfl ?_
           refine W_bld1 0 rfl Ty.cell3 rfl hS57 rfl rfl ?_
           refine W_eql rfl rfl rfl ?_
           refine W_nil ?_
           refine N_code ?_
           refine C_cond rfl (fun hc288 => ?_) (fun hc288 => ?_)
           ·
            rw [if_t hc288] at H
            refine C_seq_join (fun E wq => cellarerlaw22_MountsDone.k9 l36 i39 i40 l41 l42 rec43 x52 = some r ∧ ∃ (F289 : Frz), E = [(1, v1), (8, ur7_0), (10, ur24_0), (11, v27), (12, u37), (13, .int .i64 i39), (14, .int .i64 i40), (15, pl g54 0)] ∧ F57.le F289 ∧ St [] w F F289 [.box g54 42 [.int .i64 x52.kind, .int .i64 x52.drive, .int .i64 x52.vol, .int .i64 x52.loc.vol, .int .i64 x52.loc.file, .int .i64 x52.loc.off, .int .i64 x52.loc.len], .row tBool 4 v27 l41, .row tI 3 ur24_0 l42, .row Move.t 42 ur7_0 r7.1, .row tI 3 u37 l36] wq) ?_ ?_
            ·
             refine C_seq ?_
             refine C_region ?_
             refine W_assign rfl rfl ?_
             refine W_nil ?_
             refine N_code ?_
             refine C_block ?_
             refine C_loopM (fun (s : Int) E wq => ∃ (F416 : Frz), E = [(1, v1), (8, ur7_0), (10, ur24_0), (11, v27), (12, u37), (13, .int .i64 i39), (14, .int .i64 i40), (15, pl g54 0), (16, .int .i64 s)] ∧ F57.le F416 ∧ St [] w F F416 [.box g54 42 [.int .i64 x52.kind, .int .i64 x52.drive, .int .i64 x52.vol, .int .i64 x52.loc.vol, .int .i64 x52.loc.file, .int .i64 x52.loc.off, .int .i64 x52.loc.len], .row tBool 4 v27 l41, .row tI 3 ur24_0 l42, .row Move.t 42 ur7_0 r7.1, .row tI 3 u37 l36] wq) H ?_ ?_
             ·
              exact ⟨_, ⟨F57, rfl, (Frz.le.refl _), hS57⟩, ⟨rfl, rfl, rfl, rfl, rfl, rfl, rfl, rfl, rfl, trivial⟩⟩
             ·
              rintro rec418 i417 E w416 hI H
              try dsimp only at hI
              obtain ⟨F416, rfl, le416, hS416⟩ := hI
              dsimp only [cellarerlaw22_MountsDone.l10] at H
              refine C_seq ?_
              refine C_seq ?_
              refine C_region ?_
              refine W_move rfl rfl ?_
              refine W_move rfl rfl ?_
              refine W_lenv rfl Go.Proofs.Try.underlying22 rfl (hS416.rowLn (k := 4) rfl) ?_
              refine W_lss rfl rfl rfl ?_
              refine W_nil ?_
              refine N_code ?_
              refine C_cond rfl (fun hc419 => ?_) (fun hc419 => ?_)
              ·
               rw [if_t hc419] at H
               refine C_skip ?_
               refine N_code ?_
               refine C_seq ?_
               refine C_block ?_
               refine C_seq ?_
               obtain ⟨x420, hx420, H⟩ := bd_some H
               obtain ⟨hp422, hy422⟩ := ix_some hx420
               obtain ⟨cs422, hr422, he422⟩ := hS416.rowAt (k := 4) rfl hy422
               obtain rfl := hr422
               replace he422 : El _ _ 1 _ _ := he422
               apply C_draw 6 [[], [], [0, 1], [2], [], [4]] [.val (u37), .val (.int .i64 i417), .val (elp u37 (i417.toNat * 1)), .val (.int .i64 x420), .val (pl g54 (0 + 2)), .val (.int .i64 x52.vol)] Ty.mixed rfl rfl (by kernel_rfl) (by kernel_rfl) rfl
               ·
                refine ⟨?_, ?_, ?_, ?_, ?_, ?_, trivial⟩
                ·
                 intro w423 vq423 hB423 hH423
                 have hS423 := hS416.below hB423
                 refine W_move rfl rfl ?_
                 refine W_nil ?_
                 exact N_step rfl rfl (Below.refl _ _)
                ·
                 intro w424 vq424 hB424 hH424
                 have hS424 := hS416.below hB424
                 refine W_move rfl rfl ?_
                 refine W_nil ?_
                 exact N_step rfl rfl (Below.refl _ _)
                ·
                 intro w425 vq425 hB425 hH425
                 have hS425 := hS416.below hB425
                 refine W_ix rfl Go.Proofs.Try.underlying22 Ty.cells3 Ty.info3 rfl rfl (he422.below hB425) hp422 rfl ?_
                 refine W_nil ?_
                 exact N_step rfl rfl (Below.refl _ _)
                ·
                 intro w426 vq426 hB426 hH426
                 have hS426 := hS416.below hB426
                 refine W_ld1 0 rfl Ty.cell3 rfl (he422.below hB426) (by omega) rfl ?_
                 refine W_nil ?_
                 exact N_step rfl rfl (Below.refl _ _)
                ·
                 intro w427 vq427 hB427 hH427
                 have hS427 := hS416.below hB427
                 refine W_field_pl 2 rfl Ty.field42_2 rfl ?_
                 refine W_nil ?_
                 exact N_step rfl rfl (Below.refl _ _)
                ·
                 intro w428 vq428 hB428 hH428
                 have hS428 := hS416.below hB428
                 refine W_bld1 0 rfl Ty.cell3 rfl hS428 rfl rfl ?_
                 refine W_nil ?_
                 exact N_step rfl rfl (Below.refl _ _)
               intro w429 vq429 hB429 hH429
               have hS429 := hS416.below hB429
               refine W_eql rfl rfl rfl ?_
               refine W_nil ?_
               refine N_code ?_
               refine C_cond rfl (fun hc430 => ?_) (fun hc430 => ?_)
               ·
                rw [if_t hc430] at H
                refine C_seq ?_
                refine C_region ?_
                refine W_assign rfl rfl ?_
                refine W_nil ?_
                refine N_code ?_
                obtain rfl := Option.some.inj H
                refine C_ret rfl rfl ?_
                exact ⟨F416, rfl, hS429.pick [] (by decide)⟩
               ·
                rw [if_f hc430] at H
                refine C_skip ?_
                refine N_block ?_
                refine N_code ?_
                refine C_region ?_
                refine W_move rfl rfl ?_
                refine W_add rfl rfl rfl rfl ?_
                refine W_assign rfl rfl ?_
                refine W_nil ?_
                exact N_againM (wr (i417 + 1)) _ H ⟨F416, rfl, le416, hS429⟩ ⟨rfl, rfl, rfl, rfl, rfl, rfl, rfl, rfl, rfl, trivial⟩
              ·
               rw [if_f hc419] at H
               refine C_exit _ rfl ?_
               exact N_join _ ⟨H, ⟨F416, rfl, le416, hS416⟩⟩ ⟨rfl, rfl, rfl, rfl, rfl, rfl, rfl, rfl, trivial⟩
            ·
             rintro E w289 ⟨H, F289, rfl, le289, hS289⟩
             dsimp only [cellarerlaw22_MountsDone.k9] at H
             refine C_seq ?_
             obtain ⟨l291, hl291, H⟩ := bd_some H
             obtain ⟨x293, hx293, H⟩ := bd_some H
             apply C_drawD (fun D vs wz => ∀ (b3 b6 b7 b10 : Bool), D 3 = b3 → D 6 = b6 → D 7 = b7 → D 10 = b10 → match b3, b6, b7, b10 with | false, false, false, false => ∃ FJ : Frz, F289.le FJ ∧ St [] w F FJ [.box g54 42 [.int .i64 x52.kind, .int .i64 x52.drive, .int .i64 x52.vol, .int .i64 x52.loc.vol, .int .i64 x52.loc.file, .int .i64 x52.loc.off, .int .i64 x52.loc.len], .row tBool 4 v27 l41, .row tI 3 ur24_0 l42, .row Move.t 42 ur7_0 r7.1, .row tI 3 u37 l36] wz | true, false, false, false => ∃ FJ : Frz, vs 3 = u37 ∧ F289.le FJ ∧ St [] w F FJ [.box g54 42 [.int .i64 x52.kind, .int .i64 x52.drive, .int .i64 x52.vol, .int .i64 x52.loc.vol, .int .i64 x52.loc.file, .int .i64 x52.loc.off, .int .i64 x52.loc.len], .row tBool 4 v27 l41, .row tI 3 ur24_0 l42, .row Move.t 42 ur7_0 r7.1, .row tI 3 u37 l36] wz | false, true, false, false => ∃ FJ : Frz, ∃ u290 : Value, vs 6 = u290 ∧ F289.le FJ ∧ St [] w F FJ [.row tI 3 u290 [x52.vol], .box g54 42 [.int .i64 x52.kind, .int .i64 x52.drive, .int .i64 x52.vol, .int .i64 x52.loc.vol, .int .i64 x52.loc.file, .int .i64 x52.loc.off, .int .i64 x52.loc.len], .row tBool 4 v27 l41, .row tI 3 ur24_0 l42, .row Move.t 42 ur7_0 r7.1, .row tI 3 u37 l36] wz | true, true, false, false => ∃ FJ : Frz, ∃ u290 : Value, vs 3 = u37 ∧ vs 6 = u290 ∧ F289.le FJ ∧ St [] w F FJ [.row tI 3 u290 [x52.vol], .box g54 42 [.int .i64 x52.kind, .int .i64 x52.drive, .int .i64 x52.vol, .int .i64 x52.loc.vol, .int .i64 x52.loc.file, .int .i64 x52.loc.off, .int .i64 x52.loc.len], .row tBool 4 v27 l41, .row tI 3 ur24_0 l42, .row Move.t 42 ur7_0 r7.1, .row tI 3 u37 l36] wz | true, true, true, false => ∃ FJ : Frz, ∃ u290 : Value, ∃ v292 : Value, vs 3 = u37 ∧ vs 6 = u290 ∧ vs 7 = v292 ∧ F289.le FJ ∧ St [] w F FJ [.row tI 3 u290 [x52.vol], .box g54 42 [.int .i64 x52.kind, .int .i64 x52.drive, .int .i64 x52.vol, .int .i64 x52.loc.vol, .int .i64 x52.loc.file, .int .i64 x52.loc.off, .int .i64 x52.loc.len], .row tBool 4 v27 l41, .row tI 3 ur24_0 l42, .row Move.t 42 ur7_0 r7.1, .row tI 3 v292 l291] wz | true, true, true, true => ∃ FJ : Frz, ∃ u290 : Value, ∃ v292 : Value, vs 3 = u37 ∧ vs 6 = u290 ∧ vs 7 = v292 ∧ vs 10 = v292 ∧ F289.le FJ ∧ St [] w F FJ [.row tI 3 u290 [x52.vol], .box g54 42 [.int .i64 x52.kind, .int .i64 x52.drive, .int .i64 x52.vol, .int .i64 x52.loc.vol, .int .i64 x52.loc.file, .int .i64 x52.loc.off, .int .i64 x52.loc.len], .row tBool 4 v27 l41, .row tI 3 ur24_0 l42, .row Move.t 42 ur7_0 r7.1, .row tI 3 v292 l291] wz | _, _, _, _ => False) 11 [[], [], [1], [], [], [4], [5], [3, 6], [], [8], [3, 4, 5, 6, 7]] [some (ur24_0), some (pl g54 (0 + 1)), some (.int .i64 x52.drive), none, some (pl g54 (0 + 2)), some (.int .i64 x52.vol), none, none, some (pl g54 (0 + 2)), some (.int .i64 x52.vol), none] [[12], [12], [12], [], [], [], [], [], [12], [12], [12]] [12] Ty.mixed rfl (by kernel_rfl) (by kernel_rfl) (by kernel_rfl)
             ·
              intro vq295 b3 b6 b7 b10 h3 h6 h7 h10
              obtain rfl : b3 = false := h3.symm
              obtain rfl : b6 = false := h6.symm
              obtain rfl : b7 = false := h7.symm
              obtain rfl : b10 = false := h10.symm
              exact ⟨F289, (Frz.le.refl _), (hS289.below (below_drew _))⟩
             ·
              refine ⟨?_, ?_, ?_, ?_, ?_, ?_, ?_, ?_, ?_, ?_, ?_, trivial⟩
              ·
               intro w296 vq296 D296 hD296 hd296 hJ296
               refine W_move rfl rfl ?_
               refine W_nil ?_
               exact N_stepJ rfl (fun u hu => Option.some.inj hu) hJ296
              ·
               intro w297 vq297 D297 hD297 hd297 hJ297
               rcases Bool.eq_false_or_eq_true (D297 3) with hb298 | hb298
               ·
                rcases Bool.eq_false_or_eq_true (D297 6) with hb299 | hb299
                ·
                 rcases Bool.eq_false_or_eq_true (D297 7) with hb300 | hb300
                 ·
                  rcases Bool.eq_false_or_eq_true (D297 10) with hb301 | hb301
                  ·
                   obtain ⟨FJ297, u290, v292, he297_3, he297_6, he297_7, he297_10, leJ297, hSJ297⟩ := (hJ297 true true true true hb298 hb299 hb300 hb301)
                   refine W_field_pl 1 rfl Ty.field42_1 rfl ?_
                   refine W_nil ?_
                   exact N_stepJ rfl (fun u hu => Option.some.inj hu) (fun b3 b6 b7 b10 h3 h6 h7 h10 => by obtain rfl : b3 = true := h3.symm.trans hb298; obtain rfl : b6 = true := h6.symm.trans hb299; obtain rfl : b7 = true := h7.symm.trans hb300; obtain rfl : b10 = true := h10.symm.trans hb301; exact ⟨FJ297, u290, v292, he297_3, he297_6, he297_7, he297_10, leJ297, hSJ297⟩)
                  ·
                   obtain ⟨FJ297, u290, v292, he297_3, he297_6, he297_7, leJ297, hSJ297⟩ := (hJ297 true true true false hb298 hb299 hb300 hb301)
                   refine W_field_pl 1 rfl Ty.field42_1 rfl ?_
                   refine W_nil ?_
                   exact N_stepJ rfl (fun u hu => Option.some.inj hu) (fun b3 b6 b7 b10 h3 h6 h7 h10 => by obtain rfl : b3 = true := h3.symm.trans hb298; obtain rfl : b6 = true := h6.symm.trans hb299; obtain rfl : b7 = true := h7.symm.trans hb300; obtain rfl : b10 = false := h10.symm.trans hb301; exact ⟨FJ297, u290, v292, he297_3, he297_6, he297_7, leJ297, hSJ297⟩)
                 ·
                  rcases Bool.eq_false_or_eq_true (D297 10) with hb302 | hb302
                  ·
                   exact False.elim (hJ297 true true false true hb298 hb299 hb300 hb302)
                  ·
                   obtain ⟨FJ297, u290, he297_3, he297_6, leJ297, hSJ297⟩ := (hJ297 true true false false hb298 hb299 hb300 hb302)
                   refine W_field_pl 1 rfl Ty.field42_1 rfl ?_
                   refine W_nil ?_
                   exact N_stepJ rfl (fun u hu => Option.some.inj hu) (fun b3 b6 b7 b10 h3 h6 h7 h10 => by obtain rfl : b3 = true := h3.symm.trans hb298; obtain rfl : b6 = true := h6.symm.trans hb299; obtain rfl : b7 = false := h7.symm.trans hb300; obtain rfl : b10 = false := h10.symm.trans hb302; exact ⟨FJ297, u290, he297_3, he297_6, leJ297, hSJ297⟩)
                ·
                 rcases Bool.eq_false_or_eq_true (D297 7) with hb303 | hb303
                 ·
                  rcases Bool.eq_false_or_eq_true (D297 10) with hb304 | hb304
                  ·
                   exact False.elim (hJ297 true false true true hb298 hb299 hb303 hb304)
                  ·
                   exact False.elim (hJ297 true false true false hb298 hb299 hb303 hb304)
                 ·
                  rcases Bool.eq_false_or_eq_true (D297 10) with hb305 | hb305
                  ·
                   exact False.elim (hJ297 true false false true hb298 hb299 hb303 hb305)
                  ·
                   obtain ⟨FJ297, he297_3, leJ297, hSJ297⟩ := (hJ297 true false false false hb298 hb299 hb303 hb305)
                   refine W_field_pl 1 rfl Ty.field42_1 rfl ?_
                   refine W_nil ?_
                   exact N_stepJ rfl (fun u hu => Option.some.inj hu) (fun b3 b6 b7 b10 h3 h6 h7 h10 => by obtain rfl : b3 = true := h3.symm.trans hb298; obtain rfl : b6 = false := h6.symm.trans hb299; obtain rfl : b7 = false := h7.symm.trans hb303; obtain rfl : b10 = false := h10.symm.trans hb305; exact ⟨FJ297, he297_3, leJ297, hSJ297⟩)
               ·
                rcases Bool.eq_false_or_eq_true (D297 6) with hb306 | hb306
                ·
                 rcases Bool.eq_false_or_eq_true (D297 7) with hb307 | hb307
                 ·
                  rcases Bool.eq_false_or_eq_true (D297 10) with hb308 | hb308
                  ·
                   exact False.elim (hJ297 false true true true hb298 hb306 hb307 hb308)
                  ·
                   exact False.elim (hJ297 false true true false hb298 hb306 hb307 hb308)
                 ·
                  rcases Bool.eq_false_or_eq_true (D297 10) with hb309 | hb309
                  ·
                   exact False.elim (hJ297 false true false true hb298 hb306 hb307 hb309)
                  ·
                   obtain ⟨FJ297, u290, he297_6, leJ297, hSJ297⟩ := (hJ297 false true false false hb298 hb306 hb307 hb309)
                   refine W_field_pl 1 rfl Ty.field42_1 rfl ?_
                   refine W_nil ?_
                   exact N_stepJ rfl (fun u hu => Option.some.inj hu) (fun b3 b6 b7 b10 h3 h6 h7 h10 => by obtain rfl : b3 = false := h3.symm.trans hb298; obtain rfl : b6 = true := h6.symm.trans hb306; obtain rfl : b7 = false := h7.symm.trans hb307; obtain rfl : b10 = false := h10.symm.trans hb309; exact ⟨FJ297, u290, he297_6, leJ297, hSJ297⟩)
                ·
                 rcases Bool.eq_false_or_eq_true (D297 7) with hb310 | hb310
                 ·
                  rcases Bool.eq_false_or_eq_true (D297 10) with hb311 | hb311
                  ·
                   exact False.elim (hJ297 false false true true hb298 hb306 hb310 hb311)
                  ·
                   exact False.elim (hJ297 false false true false hb298 hb306 hb310 hb311)
                 ·
                  rcases Bool.eq_false_or_eq_true (D297 10) with hb312 | hb312
                  ·
                   exact False.elim (hJ297 false false false true hb298 hb306 hb310 hb312)
                  ·
                   obtain ⟨FJ297, leJ297, hSJ297⟩ := (hJ297 false false false false hb298 hb306 hb310 hb312)
                   refine W_field_pl 1 rfl Ty.field42_1 rfl ?_
                   refine W_nil ?_
                   exact N_stepJ rfl (fun u hu => Option.some.inj hu) (fun b3 b6 b7 b10 h3 h6 h7 h10 => by obtain rfl : b3 = false := h3.symm.trans hb298; obtain rfl : b6 = false := h6.symm.trans hb306; obtain rfl : b7 = false := h7.symm.trans hb310; obtain rfl : b10 = false := h10.symm.trans hb312; exact ⟨FJ297, leJ297, hSJ297⟩)
              ·
               intro w313 vq313 D313 hD313 hd313 hJ313
               rcases Bool.eq_false_or_eq_true (D313 3) with hb314 | hb314
               ·
                rcases Bool.eq_false_or_eq_true (D313 6) with hb315 | hb315
                ·
                 rcases Bool.eq_false_or_eq_true (D313 7) with hb316 | hb316
                 ·
                  rcases Bool.eq_false_or_eq_true (D313 10) with hb317 | hb317
                  ·
                   obtain ⟨FJ313, u290, v292, he313_3, he313_6, he313_7, he313_10, leJ313, hSJ313⟩ := (hJ313 true true true true hb314 hb315 hb316 hb317)
                   refine W_bld1 1 rfl Ty.cell3 rfl hSJ313 rfl rfl ?_
                   refine W_nil ?_
                   exact N_stepJ rfl (fun u hu => Option.some.inj hu) (fun b3 b6 b7 b10 h3 h6 h7 h10 => by obtain rfl : b3 = true := h3.symm.trans hb314; obtain rfl : b6 = true := h6.symm.trans hb315; obtain rfl : b7 = true := h7.symm.trans hb316; obtain rfl : b10 = true := h10.symm.trans hb317; exact ⟨FJ313, u290, v292, he313_3, he313_6, he313_7, he313_10, leJ313, hSJ313⟩)
                  ·
                   obtain ⟨FJ313, u290, v292, he313_3, he313_6, he313_7, leJ313, hSJ313⟩ := (hJ313 true true true false hb314 hb315 hb316 hb317)
                   refine W_bld1 1 rfl Ty.cell3 rfl hSJ313 rfl rfl ?_
                   refine W_nil ?_
                   exact N_stepJ rfl (fun u hu => Option.some.inj hu) (fun b3 b6 b7 b10 h3 h6 h7 h10 => by obtain rfl : b3 = true := h3.symm.trans hb314; obtain rfl : b6 = true := h6.symm.trans hb315; obtain rfl : b7 = true := h7.symm.trans hb316; obtain rfl : b10 = false := h10.symm.trans hb317; exact ⟨FJ313, u290, v292, he313_3, he313_6, he313_7, leJ313, hSJ313⟩)
                 ·
                  rcases Bool.eq_false_or_eq_true (D313 10) with hb318 | hb318
                  ·
                   exact False.elim (hJ313 true true false true hb314 hb315 hb316 hb318)
                  ·
                   obtain ⟨FJ313, u290, he313_3, he313_6, leJ313, hSJ313⟩ := (hJ313 true true false false hb314 hb315 hb316 hb318)
                   refine W_bld1 1 rfl Ty.cell3 rfl hSJ313 rfl rfl ?_
                   refine W_nil ?_
                   exact N_stepJ rfl (fun u hu => Option.some.inj hu) (fun b3 b6 b7 b10 h3 h6 h7 h10 => by obtain rfl : b3 = true := h3.symm.trans hb314; obtain rfl : b6 = true := h6.symm.trans hb315; obtain rfl : b7 = false := h7.symm.trans hb316; obtain rfl : b10 = false := h10.symm.trans hb318; exact ⟨FJ313, u290, he313_3, he313_6, leJ313, hSJ313⟩)
                ·
                 rcases Bool.eq_false_or_eq_true (D313 7) with hb319 | hb319
                 ·
                  rcases Bool.eq_false_or_eq_true (D313 10) with hb320 | hb320
                  ·
                   exact False.elim (hJ313 true false true true hb314 hb315 hb319 hb320)
                  ·
                   exact False.elim (hJ313 true false true false hb314 hb315 hb319 hb320)
                 ·
                  rcases Bool.eq_false_or_eq_true (D313 10) with hb321 | hb321
                  ·
                   exact False.elim (hJ313 true false false true hb314 hb315 hb319 hb321)
                  ·
                   obtain ⟨FJ313, he313_3, leJ313, hSJ313⟩ := (hJ313 true false false false hb314 hb315 hb319 hb321)
                   refine W_bld1 0 rfl Ty.cell3 rfl hSJ313 rfl rfl ?_
                   refine W_nil ?_
                   exact N_stepJ rfl (fun u hu => Option.some.inj hu) (fun b3 b6 b7 b10 h3 h6 h7 h10 => by obtain rfl : b3 = true := h3.symm.trans hb314; obtain rfl : b6 = false := h6.symm.trans hb315; obtain rfl : b7 = false := h7.symm.trans hb319; obtain rfl : b10 = false := h10.symm.trans hb321; exact ⟨FJ313, he313_3, leJ313, hSJ313⟩)
               ·
                rcases Bool.eq_false_or_eq_true (D313 6) with hb322 | hb322
                ·
                 rcases Bool.eq_false_or_eq_true (D313 7) with hb323 | hb323
                 ·
                  rcases Bool.eq_false_or_eq_true (D313 10) with hb324 | hb324
                  ·
                   exact False.elim (hJ313 false true true true hb314 hb322 hb323 hb324)
                  ·
                   exact False.elim (hJ313 false true true false hb314 hb322 hb323 hb324)
                 ·
                  rcases Bool.eq_false_or_eq_true (D313 10) with hb325 | hb325
                  ·
                   exact False.elim (hJ313 false true false true hb314 hb322 hb323 hb325)
                  ·
                   obtain ⟨FJ313, u290, he313_6, leJ313, hSJ313⟩ := (hJ313 false true false false hb314 hb322 hb323 hb325)
                   refine W_bld1 1 rfl Ty.cell3 rfl hSJ313 rfl rfl ?_
                   refine W_nil ?_
                   exact N_stepJ rfl (fun u hu => Option.some.inj hu) (fun b3 b6 b7 b10 h3 h6 h7 h10 => by obtain rfl : b3 = false := h3.symm.trans hb314; obtain rfl : b6 = true := h6.symm.trans hb322; obtain rfl : b7 = false := h7.symm.trans hb323; obtain rfl : b10 = false := h10.symm.trans hb325; exact ⟨FJ313, u290, he313_6, leJ313, hSJ313⟩)
                ·
                 rcases Bool.eq_false_or_eq_true (D313 7) with hb326 | hb326
                 ·
                  rcases Bool.eq_false_or_eq_true (D313 10) with hb327 | hb327
                  ·
                   exact False.elim (hJ313 false false true true hb314 hb322 hb326 hb327)
                  ·
                   exact False.elim (hJ313 false false true false hb314 hb322 hb326 hb327)
                 ·
                  rcases Bool.eq_false_or_eq_true (D313 10) with hb328 | hb328
                  ·
                   exact False.elim (hJ313 false false false true hb314 hb322 hb326 hb328)
                  ·
                   obtain ⟨FJ313, leJ313, hSJ313⟩ := (hJ313 false false false false hb314 hb322 hb326 hb328)
                   refine W_bld1 0 rfl Ty.cell3 rfl hSJ313 rfl rfl ?_
                   refine W_nil ?_
                   exact N_stepJ rfl (fun u hu => Option.some.inj hu) (fun b3 b6 b7 b10 h3 h6 h7 h10 => by obtain rfl : b3 = false := h3.symm.trans hb314; obtain rfl : b6 = false := h6.symm.trans hb322; obtain rfl : b7 = false := h7.symm.trans hb326; obtain rfl : b10 = false := h10.symm.trans hb328; exact ⟨FJ313, leJ313, hSJ313⟩)
              ·
               intro w329 vq329 D329 hD329 hd329 hJ329
               rcases Bool.eq_false_or_eq_true (D329 6) with hb330 | hb330
               ·
                rcases Bool.eq_false_or_eq_true (D329 7) with hb331 | hb331
                ·
                 rcases Bool.eq_false_or_eq_true (D329 10) with hb332 | hb332
                 ·
                  exact False.elim (hJ329 false true true true hD329 hb330 hb331 hb332)
                 ·
                  exact False.elim (hJ329 false true true false hD329 hb330 hb331 hb332)
                ·
                 rcases Bool.eq_false_or_eq_true (D329 10) with hb333 | hb333
                 ·
                  exact False.elim (hJ329 false true false true hD329 hb330 hb331 hb333)
                 ·
                  obtain ⟨FJ329, u290, he329_6, leJ329, hSJ329⟩ := (hJ329 false true false false hD329 hb330 hb331 hb333)
                  refine W_move rfl rfl ?_
                  refine W_nil ?_
                  exact N_stepJ rfl (fun u (hu : (none : Option Value) = some u) => by cases hu) (fun b3 b6 b7 b10 h3 h6 h7 h10 => by obtain rfl : b3 = true := h3.symm; obtain rfl : b6 = true := h6.symm.trans hb330; obtain rfl : b7 = false := h7.symm.trans hb331; obtain rfl : b10 = false := h10.symm.trans hb333; exact ⟨FJ329, u290, rfl, he329_6, leJ329, hSJ329⟩)
               ·
                rcases Bool.eq_false_or_eq_true (D329 7) with hb334 | hb334
                ·
                 rcases Bool.eq_false_or_eq_true (D329 10) with hb335 | hb335
                 ·
                  exact False.elim (hJ329 false false true true hD329 hb330 hb334 hb335)
                 ·
                  exact False.elim (hJ329 false false true false hD329 hb330 hb334 hb335)
                ·
                 rcases Bool.eq_false_or_eq_true (D329 10) with hb336 | hb336
                 ·
                  exact False.elim (hJ329 false false false true hD329 hb330 hb334 hb336)
                 ·
                  obtain ⟨FJ329, leJ329, hSJ329⟩ := (hJ329 false false false false hD329 hb330 hb334 hb336)
                  refine W_move rfl rfl ?_
                  refine W_nil ?_
                  exact N_stepJ rfl (fun u (hu : (none : Option Value) = some u) => by cases hu) (fun b3 b6 b7 b10 h3 h6 h7 h10 => by obtain rfl : b3 = true := h3.symm; obtain rfl : b6 = false := h6.symm.trans hb330; obtain rfl : b7 = false := h7.symm.trans hb334; obtain rfl : b10 = false := h10.symm.trans hb336; exact ⟨FJ329, rfl, leJ329, hSJ329⟩)
              ·
               intro w337 vq337 D337 hD337 hd337 hJ337
               rcases Bool.eq_false_or_eq_true (D337 3) with hb338 | hb338
               ·
                rcases Bool.eq_false_or_eq_true (D337 6) with hb339 | hb339
                ·
                 rcases Bool.eq_false_or_eq_true (D337 7) with hb340 | hb340
                 ·
                  rcases Bool.eq_false_or_eq_true (D337 10) with hb341 | hb341
                  ·
                   obtain ⟨FJ337, u290, v292, he337_3, he337_6, he337_7, he337_10, leJ337, hSJ337⟩ := (hJ337 true true true true hb338 hb339 hb340 hb341)
                   refine W_field_pl 2 rfl Ty.field42_2 rfl ?_
                   refine W_nil ?_
                   exact N_stepJ rfl (fun u hu => Option.some.inj hu) (fun b3 b6 b7 b10 h3 h6 h7 h10 => by obtain rfl : b3 = true := h3.symm.trans hb338; obtain rfl : b6 = true := h6.symm.trans hb339; obtain rfl : b7 = true := h7.symm.trans hb340; obtain rfl : b10 = true := h10.symm.trans hb341; exact ⟨FJ337, u290, v292, he337_3, he337_6, he337_7, he337_10, leJ337, hSJ337⟩)
                  ·
                   obtain ⟨FJ337, u290, v292, he337_3, he337_6, he337_7, leJ337, hSJ337⟩ := (hJ337 true true true false hb338 hb339 hb340 hb341)
                   refine W_field_pl 2 rfl Ty.field42_2 rfl ?_
                   refine W_nil ?_
                   exact N_stepJ rfl (fun u hu => Option.some.inj hu) (fun b3 b6 b7 b10 h3 h6 h7 h10 => by obtain rfl : b3 = true := h3.symm.trans hb338; obtain rfl : b6 = true := h6.symm.trans hb339; obtain rfl : b7 = true := h7.symm.trans hb340; obtain rfl : b10 = false := h10.symm.trans hb341; exact ⟨FJ337, u290, v292, he337_3, he337_6, he337_7, leJ337, hSJ337⟩)
                 ·
                  rcases Bool.eq_false_or_eq_true (D337 10) with hb342 | hb342
                  ·
                   exact False.elim (hJ337 true true false true hb338 hb339 hb340 hb342)
                  ·
                   obtain ⟨FJ337, u290, he337_3, he337_6, leJ337, hSJ337⟩ := (hJ337 true true false false hb338 hb339 hb340 hb342)
                   refine W_field_pl 2 rfl Ty.field42_2 rfl ?_
                   refine W_nil ?_
                   exact N_stepJ rfl (fun u hu => Option.some.inj hu) (fun b3 b6 b7 b10 h3 h6 h7 h10 => by obtain rfl : b3 = true := h3.symm.trans hb338; obtain rfl : b6 = true := h6.symm.trans hb339; obtain rfl : b7 = false := h7.symm.trans hb340; obtain rfl : b10 = false := h10.symm.trans hb342; exact ⟨FJ337, u290, he337_3, he337_6, leJ337, hSJ337⟩)
                ·
                 rcases Bool.eq_false_or_eq_true (D337 7) with hb343 | hb343
                 ·
                  rcases Bool.eq_false_or_eq_true (D337 10) with hb344 | hb344
                  ·
                   exact False.elim (hJ337 true false true true hb338 hb339 hb343 hb344)
                  ·
                   exact False.elim (hJ337 true false true false hb338 hb339 hb343 hb344)
                 ·
                  rcases Bool.eq_false_or_eq_true (D337 10) with hb345 | hb345
                  ·
                   exact False.elim (hJ337 true false false true hb338 hb339 hb343 hb345)
                  ·
                   obtain ⟨FJ337, he337_3, leJ337, hSJ337⟩ := (hJ337 true false false false hb338 hb339 hb343 hb345)
                   refine W_field_pl 2 rfl Ty.field42_2 rfl ?_
                   refine W_nil ?_
                   exact N_stepJ rfl (fun u hu => Option.some.inj hu) (fun b3 b6 b7 b10 h3 h6 h7 h10 => by obtain rfl : b3 = true := h3.symm.trans hb338; obtain rfl : b6 = false := h6.symm.trans hb339; obtain rfl : b7 = false := h7.symm.trans hb343; obtain rfl : b10 = false := h10.symm.trans hb345; exact ⟨FJ337, he337_3, leJ337, hSJ337⟩)
               ·
                rcases Bool.eq_false_or_eq_true (D337 6) with hb346 | hb346
                ·
                 rcases Bool.eq_false_or_eq_true (D337 7) with hb347 | hb347
                 ·
                  rcases Bool.eq_false_or_eq_true (D337 10) with hb348 | hb348
                  ·
                   exact False.elim (hJ337 false true true true hb338 hb346 hb347 hb348)
                  ·
                   exact False.elim (hJ337 false true true false hb338 hb346 hb347 hb348)
                 ·
                  rcases Bool.eq_false_or_eq_true (D337 10) with hb349 | hb349
                  ·
                   exact False.elim (hJ337 false true false true hb338 hb346 hb347 hb349)
                  ·
                   obtain ⟨FJ337, u290, he337_6, leJ337, hSJ337⟩ := (hJ337 false true false false hb338 hb346 hb347 hb349)
                   refine W_field_pl 2 rfl Ty.field42_2 rfl ?_
                   refine W_nil ?_
                   exact N_stepJ rfl (fun u hu => Option.some.inj hu) (fun b3 b6 b7 b10 h3 h6 h7 h10 => by obtain rfl : b3 = false := h3.symm.trans hb338; obtain rfl : b6 = true := h6.symm.trans hb346; obtain rfl : b7 = false := h7.symm.trans hb347; obtain rfl : b10 = false := h10.symm.trans hb349; exact ⟨FJ337, u290, he337_6, leJ337, hSJ337⟩)
                ·
                 rcases Bool.eq_false_or_eq_true (D337 7) with hb350 | hb350
                 ·
                  rcases Bool.eq_false_or_eq_true (D337 10) with hb351 | hb351
                  ·
                   exact False.elim (hJ337 false false true true hb338 hb346 hb350 hb351)
                  ·
                   exact False.elim (hJ337 false false true false hb338 hb346 hb350 hb351)
                 ·
                  rcases Bool.eq_false_or_eq_true (D337 10) with hb352 | hb352
                  ·
                   exact False.elim (hJ337 false false false true hb338 hb346 hb350 hb352)
                  ·
                   obtain ⟨FJ337, leJ337, hSJ337⟩ := (hJ337 false false false false hb338 hb346 hb350 hb352)
                   refine W_field_pl 2 rfl Ty.field42_2 rfl ?_
                   refine W_nil ?_
                   exact N_stepJ rfl (fun u hu => Option.some.inj hu) (fun b3 b6 b7 b10 h3 h6 h7 h10 => by obtain rfl : b3 = false := h3.symm.trans hb338; obtain rfl : b6 = false := h6.symm.trans hb346; obtain rfl : b7 = false := h7.symm.trans hb350; obtain rfl : b10 = false := h10.symm.trans hb352; exact ⟨FJ337, leJ337, hSJ337⟩)
              ·
               intro w353 vq353 D353 hD353 hd353 hJ353
               rcases Bool.eq_false_or_eq_true (D353 3) with hb354 | hb354
               ·
                rcases Bool.eq_false_or_eq_true (D353 6) with hb355 | hb355
                ·
                 rcases Bool.eq_false_or_eq_true (D353 7) with hb356 | hb356
                 ·
                  rcases Bool.eq_false_or_eq_true (D353 10) with hb357 | hb357
                  ·
                   obtain ⟨FJ353, u290, v292, he353_3, he353_6, he353_7, he353_10, leJ353, hSJ353⟩ := (hJ353 true true true true hb354 hb355 hb356 hb357)
                   refine W_bld1 1 rfl Ty.cell3 rfl hSJ353 rfl rfl ?_
                   refine W_nil ?_
                   exact N_stepJ rfl (fun u hu => Option.some.inj hu) (fun b3 b6 b7 b10 h3 h6 h7 h10 => by obtain rfl : b3 = true := h3.symm.trans hb354; obtain rfl : b6 = true := h6.symm.trans hb355; obtain rfl : b7 = true := h7.symm.trans hb356; obtain rfl : b10 = true := h10.symm.trans hb357; exact ⟨FJ353, u290, v292, he353_3, he353_6, he353_7, he353_10, leJ353, hSJ353⟩)
                  ·
                   obtain ⟨FJ353, u290, v292, he353_3, he353_6, he353_7, leJ353, hSJ353⟩ := (hJ353 true true true false hb354 hb355 hb356 hb357)
                   refine W_bld1 1 rfl Ty.cell3 rfl hSJ353 rfl rfl ?_
                   refine W_nil ?_
                   exact N_stepJ rfl (fun u hu => Option.some.inj hu) (fun b3 b6 b7 b10 h3 h6 h7 h10 => by obtain rfl : b3 = true := h3.symm.trans hb354; obtain rfl : b6 = true := h6.symm.trans hb355; obtain rfl : b7 = true := h7.symm.trans hb356; obtain rfl : b10 = false := h10.symm.trans hb357; exact ⟨FJ353, u290, v292, he353_3, he353_6, he353_7, leJ353, hSJ353⟩)
                 ·
                  rcases Bool.eq_false_or_eq_true (D353 10) with hb358 | hb358
                  ·
                   exact False.elim (hJ353 true true false true hb354 hb355 hb356 hb358)
                  ·
                   obtain ⟨FJ353, u290, he353_3, he353_6, leJ353, hSJ353⟩ := (hJ353 true true false false hb354 hb355 hb356 hb358)
                   refine W_bld1 1 rfl Ty.cell3 rfl hSJ353 rfl rfl ?_
                   refine W_nil ?_
                   exact N_stepJ rfl (fun u hu => Option.some.inj hu) (fun b3 b6 b7 b10 h3 h6 h7 h10 => by obtain rfl : b3 = true := h3.symm.trans hb354; obtain rfl : b6 = true := h6.symm.trans hb355; obtain rfl : b7 = false := h7.symm.trans hb356; obtain rfl : b10 = false := h10.symm.trans hb358; exact ⟨FJ353, u290, he353_3, he353_6, leJ353, hSJ353⟩)
                ·
                 rcases Bool.eq_false_or_eq_true (D353 7) with hb359 | hb359
                 ·
                  rcases Bool.eq_false_or_eq_true (D353 10) with hb360 | hb360
                  ·
                   exact False.elim (hJ353 true false true true hb354 hb355 hb359 hb360)
                  ·
                   exact False.elim (hJ353 true false true false hb354 hb355 hb359 hb360)
                 ·
                  rcases Bool.eq_false_or_eq_true (D353 10) with hb361 | hb361
                  ·
                   exact False.elim (hJ353 true false false true hb354 hb355 hb359 hb361)
                  ·
                   obtain ⟨FJ353, he353_3, leJ353, hSJ353⟩ := (hJ353 true false false false hb354 hb355 hb359 hb361)
                   refine W_bld1 0 rfl Ty.cell3 rfl hSJ353 rfl rfl ?_
                   refine W_nil ?_
                   exact N_stepJ rfl (fun u hu => Option.some.inj hu) (fun b3 b6 b7 b10 h3 h6 h7 h10 => by obtain rfl : b3 = true := h3.symm.trans hb354; obtain rfl : b6 = false := h6.symm.trans hb355; obtain rfl : b7 = false := h7.symm.trans hb359; obtain rfl : b10 = false := h10.symm.trans hb361; exact ⟨FJ353, he353_3, leJ353, hSJ353⟩)
               ·
                rcases Bool.eq_false_or_eq_true (D353 6) with hb362 | hb362
                ·
                 rcases Bool.eq_false_or_eq_true (D353 7) with hb363 | hb363
                 ·
                  rcases Bool.eq_false_or_eq_true (D353 10) with hb364 | hb364
                  ·
                   exact False.elim (hJ353 false true true true hb354 hb362 hb363 hb364)
                  ·
                   exact False.elim (hJ353 false true true false hb354 hb362 hb363 hb364)
                 ·
                  rcases Bool.eq_false_or_eq_true (D353 10) with hb365 | hb365
                  ·
                   exact False.elim (hJ353 false true false true hb354 hb362 hb363 hb365)
                  ·
                   obtain ⟨FJ353, u290, he353_6, leJ353, hSJ353⟩ := (hJ353 false true false false hb354 hb362 hb363 hb365)
                   refine W_bld1 1 rfl Ty.cell3 rfl hSJ353 rfl rfl ?_
                   refine W_nil ?_
                   exact N_stepJ rfl (fun u hu => Option.some.inj hu) (fun b3 b6 b7 b10 h3 h6 h7 h10 => by obtain rfl : b3 = false := h3.symm.trans hb354; obtain rfl : b6 = true := h6.symm.trans hb362; obtain rfl : b7 = false := h7.symm.trans hb363; obtain rfl : b10 = false := h10.symm.trans hb365; exact ⟨FJ353, u290, he353_6, leJ353, hSJ353⟩)
                ·
                 rcases Bool.eq_false_or_eq_true (D353 7) with hb366 | hb366
                 ·
                  rcases Bool.eq_false_or_eq_true (D353 10) with hb367 | hb367
                  ·
                   exact False.elim (hJ353 false false true true hb354 hb362 hb366 hb367)
                  ·
                   exact False.elim (hJ353 false false true false hb354 hb362 hb366 hb367)
                 ·
                  rcases Bool.eq_false_or_eq_true (D353 10) with hb368 | hb368
                  ·
                   exact False.elim (hJ353 false false false true hb354 hb362 hb366 hb368)
                  ·
                   obtain ⟨FJ353, leJ353, hSJ353⟩ := (hJ353 false false false false hb354 hb362 hb366 hb368)
                   refine W_bld1 0 rfl Ty.cell3 rfl hSJ353 rfl rfl ?_
                   refine W_nil ?_
                   exact N_stepJ rfl (fun u hu => Option.some.inj hu) (fun b3 b6 b7 b10 h3 h6 h7 h10 => by obtain rfl : b3 = false := h3.symm.trans hb354; obtain rfl : b6 = false := h6.symm.trans hb362; obtain rfl : b7 = false := h7.symm.trans hb366; obtain rfl : b10 = false := h10.symm.trans hb368; exact ⟨FJ353, leJ353, hSJ353⟩)
              ·
               intro w369 vq369 D369 hD369 hd369 hJ369
               rcases Bool.eq_false_or_eq_true (D369 3) with hb370 | hb370
               ·
                rcases Bool.eq_false_or_eq_true (D369 7) with hb371 | hb371
                ·
                 rcases Bool.eq_false_or_eq_true (D369 10) with hb372 | hb372
                 ·
                  exact False.elim (hJ369 true false true true hb370 hD369 hb371 hb372)
                 ·
                  exact False.elim (hJ369 true false true false hb370 hD369 hb371 hb372)
                ·
                 rcases Bool.eq_false_or_eq_true (D369 10) with hb373 | hb373
                 ·
                  exact False.elim (hJ369 true false false true hb370 hD369 hb371 hb373)
                 ·
                  obtain ⟨FJ369, he369_3, leJ369, hSJ369⟩ := (hJ369 true false false false hb370 hD369 hb371 hb373)
                  refine W_bs (t := tI) [[.int .i64 x52.vol]] [x52.vol] rfl Go.Proofs.Try.underlying22 Ty.cells3 rfl rfl Ty.zero3 rfl rfl ⟨rfl, trivial⟩ rfl rfl hSJ369 ?_
                  intro u290 w290 hS290
                  refine W_nil ?_
                  exact N_stepJ rfl (fun u (hu : (none : Option Value) = some u) => by cases hu) (fun b3 b6 b7 b10 h3 h6 h7 h10 => by obtain rfl : b3 = true := h3.symm.trans hb370; obtain rfl : b6 = true := h6.symm; obtain rfl : b7 = false := h7.symm.trans hb371; obtain rfl : b10 = false := h10.symm.trans hb373; exact ⟨FJ369, u290, he369_3, rfl, leJ369, hS290⟩)
               ·
                rcases Bool.eq_false_or_eq_true (D369 7) with hb374 | hb374
                ·
                 rcases Bool.eq_false_or_eq_true (D369 10) with hb375 | hb375
                 ·
                  exact False.elim (hJ369 false false true true hb370 hD369 hb374 hb375)
                 ·
                  exact False.elim (hJ369 false false true false hb370 hD369 hb374 hb375)
                ·
                 rcases Bool.eq_false_or_eq_true (D369 10) with hb376 | hb376
                 ·
                  exact False.elim (hJ369 false false false true hb370 hD369 hb374 hb376)
                 ·
                  obtain ⟨FJ369, leJ369, hSJ369⟩ := (hJ369 false false false false hb370 hD369 hb374 hb376)
                  refine W_bs (t := tI) [[.int .i64 x52.vol]] [x52.vol] rfl Go.Proofs.Try.underlying22 Ty.cells3 rfl rfl Ty.zero3 rfl rfl ⟨rfl, trivial⟩ rfl rfl hSJ369 ?_
                  intro u290 w290 hS290
                  refine W_nil ?_
                  exact N_stepJ rfl (fun u (hu : (none : Option Value) = some u) => by cases hu) (fun b3 b6 b7 b10 h3 h6 h7 h10 => by obtain rfl : b3 = false := h3.symm.trans hb370; obtain rfl : b6 = true := h6.symm; obtain rfl : b7 = false := h7.symm.trans hb374; obtain rfl : b10 = false := h10.symm.trans hb376; exact ⟨FJ369, u290, rfl, leJ369, hS290⟩)
              ·
               intro w377 vq377 D377 hD377 hd377 hJ377
               rcases Bool.eq_false_or_eq_true (D377 10) with hb378 | hb378
               ·
                exact False.elim (hJ377 true true false true (hd377 3 (by decide)) (hd377 6 (by decide)) hD377 hb378)
               ·
                obtain ⟨FJ377, u290, he377_3, he377_6, leJ377, hSJ377⟩ := (hJ377 true true false false (hd377 3 (by decide)) (hd377 6 (by decide)) hD377 hb378)
                refine W_eqv (t := 141) rfl he377_3 ?_
                refine W_eqv (t := 144) rfl he377_6 ?_
                refine W_appM 5 rfl Go.Proofs.Try.underlying22 Ty.row3 rfl rfl rfl rfl rfl hSJ377 rfl (hSJ377.rowSrc (j := 0) rfl) hl291 ?_
                intro v292 w292 hS292
                refine W_nil ?_
                exact N_stepJ rfl (fun u (hu : (none : Option Value) = some u) => by cases hu) (fun b3 b6 b7 b10 h3 h6 h7 h10 => by obtain rfl : b3 = true := h3.symm.trans (hd377 3 (by decide)); obtain rfl : b6 = true := h6.symm.trans (hd377 6 (by decide)); obtain rfl : b7 = true := h7.symm; obtain rfl : b10 = false := h10.symm.trans hb378; exact ⟨FJ377, u290, v292, he377_3, he377_6, rfl, leJ377, hS292⟩)
              ·
               intro w379 vq379 D379 hD379 hd379 hJ379
               rcases Bool.eq_false_or_eq_true (D379 3) with hb380 | hb380
               ·
                rcases Bool.eq_false_or_eq_true (D379 6) with hb381 | hb381
                ·
                 rcases Bool.eq_false_or_eq_true (D379 7) with hb382 | hb382
                 ·
                  rcases Bool.eq_false_or_eq_true (D379 10) with hb383 | hb383
                  ·
                   obtain ⟨FJ379, u290, v292, he379_3, he379_6, he379_7, he379_10, leJ379, hSJ379⟩ := (hJ379 true true true true hb380 hb381 hb382 hb383)
                   refine W_field_pl 2 rfl Ty.field42_2 rfl ?_
                   refine W_nil ?_
                   exact N_stepJ rfl (fun u hu => Option.some.inj hu) (fun b3 b6 b7 b10 h3 h6 h7 h10 => by obtain rfl : b3 = true := h3.symm.trans hb380; obtain rfl : b6 = true := h6.symm.trans hb381; obtain rfl : b7 = true := h7.symm.trans hb382; obtain rfl : b10 = true := h10.symm.trans hb383; exact ⟨FJ379, u290, v292, he379_3, he379_6, he379_7, he379_10, leJ379, hSJ379⟩)
                  ·
                   obtain ⟨FJ379, u290, v292, he379_3, he379_6, he379_7, leJ379, hSJ379⟩ := (hJ379 true true true false hb380 hb381 hb382 hb383)
                   refine W_field_pl 2 rfl Ty.field42_2 rfl ?_
                   refine W_nil ?_
                   exact N_stepJ rfl (fun u hu => Option.some.inj hu) (fun b3 b6 b7 b10 h3 h6 h7 h10 => by obtain rfl : b3 = true := h3.symm.trans hb380; obtain rfl : b6 = true := h6.symm.trans hb381; obtain rfl : b7 = true := h7.symm.trans hb382; obtain rfl : b10 = false := h10.symm.trans hb383; exact ⟨FJ379, u290, v292, he379_3, he379_6, he379_7, leJ379, hSJ379⟩)
                 ·
                  rcases Bool.eq_false_or_eq_true (D379 10) with hb384 | hb384
                  ·
                   exact False.elim (hJ379 true true false true hb380 hb381 hb382 hb384)
                  ·
                   obtain ⟨FJ379, u290, he379_3, he379_6, leJ379, hSJ379⟩ := (hJ379 true true false false hb380 hb381 hb382 hb384)
                   refine W_field_pl 2 rfl Ty.field42_2 rfl ?_
                   refine W_nil ?_
                   exact N_stepJ rfl (fun u hu => Option.some.inj hu) (fun b3 b6 b7 b10 h3 h6 h7 h10 => by obtain rfl : b3 = true := h3.symm.trans hb380; obtain rfl : b6 = true := h6.symm.trans hb381; obtain rfl : b7 = false := h7.symm.trans hb382; obtain rfl : b10 = false := h10.symm.trans hb384; exact ⟨FJ379, u290, he379_3, he379_6, leJ379, hSJ379⟩)
                ·
                 rcases Bool.eq_false_or_eq_true (D379 7) with hb385 | hb385
                 ·
                  rcases Bool.eq_false_or_eq_true (D379 10) with hb386 | hb386
                  ·
                   exact False.elim (hJ379 true false true true hb380 hb381 hb385 hb386)
                  ·
                   exact False.elim (hJ379 true false true false hb380 hb381 hb385 hb386)
                 ·
                  rcases Bool.eq_false_or_eq_true (D379 10) with hb387 | hb387
                  ·
                   exact False.elim (hJ379 true false false true hb380 hb381 hb385 hb387)
                  ·
                   obtain ⟨FJ379, he379_3, leJ379, hSJ379⟩ := (hJ379 true false false false hb380 hb381 hb385 hb387)
                   refine W_field_pl 2 rfl Ty.field42_2 rfl ?_
                   refine W_nil ?_
                   exact N_stepJ rfl (fun u hu => Option.some.inj hu) (fun b3 b6 b7 b10 h3 h6 h7 h10 => by obtain rfl : b3 = true := h3.symm.trans hb380; obtain rfl : b6 = false := h6.symm.trans hb381; obtain rfl : b7 = false := h7.symm.trans hb385; obtain rfl : b10 = false := h10.symm.trans hb387; exact ⟨FJ379, he379_3, leJ379, hSJ379⟩)
               ·
                rcases Bool.eq_false_or_eq_true (D379 6) with hb388 | hb388
                ·
                 rcases Bool.eq_false_or_eq_true (D379 7) with hb389 | hb389
                 ·
                  rcases Bool.eq_false_or_eq_true (D379 10) with hb390 | hb390
                  ·
                   exact False.elim (hJ379 false true true true hb380 hb388 hb389 hb390)
                  ·
                   exact False.elim (hJ379 false true true false hb380 hb388 hb389 hb390)
                 ·
                  rcases Bool.eq_false_or_eq_true (D379 10) with hb391 | hb391
                  ·
                   exact False.elim (hJ379 false true false true hb380 hb388 hb389 hb391)
                  ·
                   obtain ⟨FJ379, u290, he379_6, leJ379, hSJ379⟩ := (hJ379 false true false false hb380 hb388 hb389 hb391)
                   refine W_field_pl 2 rfl Ty.field42_2 rfl ?_
                   refine W_nil ?_
                   exact N_stepJ rfl (fun u hu => Option.some.inj hu) (fun b3 b6 b7 b10 h3 h6 h7 h10 => by obtain rfl : b3 = false := h3.symm.trans hb380; obtain rfl : b6 = true := h6.symm.trans hb388; obtain rfl : b7 = false := h7.symm.trans hb389; obtain rfl : b10 = false := h10.symm.trans hb391; exact ⟨FJ379, u290, he379_6, leJ379, hSJ379⟩)
                ·
                 rcases Bool.eq_false_or_eq_true (D379 7) with hb392 | hb392
                 ·
                  rcases Bool.eq_false_or_eq_true (D379 10) with hb393 | hb393
                  ·
                   exact False.elim (hJ379 false false true true hb380 hb388 hb392 hb393)
                  ·
                   exact False.elim (hJ379 false false true false hb380 hb388 hb392 hb393)
                 ·
                  rcases Bool.eq_false_or_eq_true (D379 10) with hb394 | hb394
                  ·
                   exact False.elim (hJ379 false false false true hb380 hb388 hb392 hb394)
                  ·
                   obtain ⟨FJ379, leJ379, hSJ379⟩ := (hJ379 false false false false hb380 hb388 hb392 hb394)
                   refine W_field_pl 2 rfl Ty.field42_2 rfl ?_
                   refine W_nil ?_
                   exact N_stepJ rfl (fun u hu => Option.some.inj hu) (fun b3 b6 b7 b10 h3 h6 h7 h10 => by obtain rfl : b3 = false := h3.symm.trans hb380; obtain rfl : b6 = false := h6.symm.trans hb388; obtain rfl : b7 = false := h7.symm.trans hb392; obtain rfl : b10 = false := h10.symm.trans hb394; exact ⟨FJ379, leJ379, hSJ379⟩)
              ·
               intro w395 vq395 D395 hD395 hd395 hJ395
               rcases Bool.eq_false_or_eq_true (D395 3) with hb396 | hb396
               ·
                rcases Bool.eq_false_or_eq_true (D395 6) with hb397 | hb397
                ·
                 rcases Bool.eq_false_or_eq_true (D395 7) with hb398 | hb398
                 ·
                  rcases Bool.eq_false_or_eq_true (D395 10) with hb399 | hb399
                  ·
                   obtain ⟨FJ395, u290, v292, he395_3, he395_6, he395_7, he395_10, leJ395, hSJ395⟩ := (hJ395 true true true true hb396 hb397 hb398 hb399)
                   refine W_bld1 1 rfl Ty.cell3 rfl hSJ395 rfl rfl ?_
                   refine W_nil ?_
                   exact N_stepJ rfl (fun u hu => Option.some.inj hu) (fun b3 b6 b7 b10 h3 h6 h7 h10 => by obtain rfl : b3 = true := h3.symm.trans hb396; obtain rfl : b6 = true := h6.symm.trans hb397; obtain rfl : b7 = true := h7.symm.trans hb398; obtain rfl : b10 = true := h10.symm.trans hb399; exact ⟨FJ395, u290, v292, he395_3, he395_6, he395_7, he395_10, leJ395, hSJ395⟩)
                  ·
                   obtain ⟨FJ395, u290, v292, he395_3, he395_6, he395_7, leJ395, hSJ395⟩ := (hJ395 true true true false hb396 hb397 hb398 hb399)
                   refine W_bld1 1 rfl Ty.cell3 rfl hSJ395 rfl rfl ?_
                   refine W_nil ?_
                   exact N_stepJ rfl (fun u hu => Option.some.inj hu) (fun b3 b6 b7 b10 h3 h6 h7 h10 => by obtain rfl : b3 = true := h3.symm.trans hb396; obtain rfl : b6 = true := h6.symm.trans hb397; obtain rfl : b7 = true := h7.symm.trans hb398; obtain rfl : b10 = false := h10.symm.trans hb399; exact ⟨FJ395, u290, v292, he395_3, he395_6, he395_7, leJ395, hSJ395⟩)
                 ·
                  rcases Bool.eq_false_or_eq_true (D395 10) with hb400 | hb400
                  ·
                   exact False.elim (hJ395 true true false true hb396 hb397 hb398 hb400)
                  ·
                   obtain ⟨FJ395, u290, he395_3, he395_6, leJ395, hSJ395⟩ := (hJ395 true true false false hb396 hb397 hb398 hb400)
                   refine W_bld1 1 rfl Ty.cell3 rfl hSJ395 rfl rfl ?_
                   refine W_nil ?_
                   exact N_stepJ rfl (fun u hu => Option.some.inj hu) (fun b3 b6 b7 b10 h3 h6 h7 h10 => by obtain rfl : b3 = true := h3.symm.trans hb396; obtain rfl : b6 = true := h6.symm.trans hb397; obtain rfl : b7 = false := h7.symm.trans hb398; obtain rfl : b10 = false := h10.symm.trans hb400; exact ⟨FJ395, u290, he395_3, he395_6, leJ395, hSJ395⟩)
                ·
                 rcases Bool.eq_false_or_eq_true (D395 7) with hb401 | hb401
                 ·
                  rcases Bool.eq_false_or_eq_true (D395 10) with hb402 | hb402
                  ·
                   exact False.elim (hJ395 true false true true hb396 hb397 hb401 hb402)
                  ·
                   exact False.elim (hJ395 true false true false hb396 hb397 hb401 hb402)
                 ·
                  rcases Bool.eq_false_or_eq_true (D395 10) with hb403 | hb403
                  ·
                   exact False.elim (hJ395 true false false true hb396 hb397 hb401 hb403)
                  ·
                   obtain ⟨FJ395, he395_3, leJ395, hSJ395⟩ := (hJ395 true false false false hb396 hb397 hb401 hb403)
                   refine W_bld1 0 rfl Ty.cell3 rfl hSJ395 rfl rfl ?_
                   refine W_nil ?_
                   exact N_stepJ rfl (fun u hu => Option.some.inj hu) (fun b3 b6 b7 b10 h3 h6 h7 h10 => by obtain rfl : b3 = true := h3.symm.trans hb396; obtain rfl : b6 = false := h6.symm.trans hb397; obtain rfl : b7 = false := h7.symm.trans hb401; obtain rfl : b10 = false := h10.symm.trans hb403; exact ⟨FJ395, he395_3, leJ395, hSJ395⟩)
               ·
                rcases Bool.eq_false_or_eq_true (D395 6) with hb404 | hb404
                ·
                 rcases Bool.eq_false_or_eq_true (D395 7) with hb405 | hb405
                 ·
                  rcases Bool.eq_false_or_eq_true (D395 10) with hb406 | hb406
                  ·
                   exact False.elim (hJ395 false true true true hb396 hb404 hb405 hb406)
                  ·
                   exact False.elim (hJ395 false true true false hb396 hb404 hb405 hb406)
                 ·
                  rcases Bool.eq_false_or_eq_true (D395 10) with hb407 | hb407
                  ·
                   exact False.elim (hJ395 false true false true hb396 hb404 hb405 hb407)
                  ·
                   obtain ⟨FJ395, u290, he395_6, leJ395, hSJ395⟩ := (hJ395 false true false false hb396 hb404 hb405 hb407)
                   refine W_bld1 1 rfl Ty.cell3 rfl hSJ395 rfl rfl ?_
                   refine W_nil ?_
                   exact N_stepJ rfl (fun u hu => Option.some.inj hu) (fun b3 b6 b7 b10 h3 h6 h7 h10 => by obtain rfl : b3 = false := h3.symm.trans hb396; obtain rfl : b6 = true := h6.symm.trans hb404; obtain rfl : b7 = false := h7.symm.trans hb405; obtain rfl : b10 = false := h10.symm.trans hb407; exact ⟨FJ395, u290, he395_6, leJ395, hSJ395⟩)
                ·
                 rcases Bool.eq_false_or_eq_true (D395 7) with hb408 | hb408
                 ·
                  rcases Bool.eq_false_or_eq_true (D395 10) with hb409 | hb409
                  ·
                   exact False.elim (hJ395 false false true true hb396 hb404 hb408 hb409)
                  ·
                   exact False.elim (hJ395 false false true false hb396 hb404 hb408 hb409)
                 ·
                  rcases Bool.eq_false_or_eq_true (D395 10) with hb410 | hb410
                  ·
                   exact False.elim (hJ395 false false false true hb396 hb404 hb408 hb410)
                  ·
                   obtain ⟨FJ395, leJ395, hSJ395⟩ := (hJ395 false false false false hb396 hb404 hb408 hb410)
                   refine W_bld1 0 rfl Ty.cell3 rfl hSJ395 rfl rfl ?_
                   refine W_nil ?_
                   exact N_stepJ rfl (fun u hu => Option.some.inj hu) (fun b3 b6 b7 b10 h3 h6 h7 h10 => by obtain rfl : b3 = false := h3.symm.trans hb396; obtain rfl : b6 = false := h6.symm.trans hb404; obtain rfl : b7 = false := h7.symm.trans hb408; obtain rfl : b10 = false := h10.symm.trans hb410; exact ⟨FJ395, leJ395, hSJ395⟩)
              ·
               intro w411 vq411 D411 hD411 hd411 hJ411
               obtain ⟨FJ411, u290, v292, he411_3, he411_6, he411_7, leJ411, hSJ411⟩ := (hJ411 true true true false (hd411 3 (by decide)) (hd411 6 (by decide)) (hd411 7 (by decide)) hD411)
               refine W_eqv (t := 141) rfl he411_3 ?_
               refine W_eqv (t := 144) rfl he411_6 ?_
               refine W_eqv (t := 145) rfl he411_7 ?_
               refine W_assign rfl rfl ?_
               refine W_nil ?_
               exact N_stepJ rfl (fun u (hu : (none : Option Value) = some u) => by cases hu) (fun b3 b6 b7 b10 h3 h6 h7 h10 => by obtain rfl : b3 = true := h3.symm.trans (hd411 3 (by decide)); obtain rfl : b6 = true := h6.symm.trans (hd411 6 (by decide)); obtain rfl : b7 = true := h7.symm.trans (hd411 7 (by decide)); obtain rfl : b10 = true := h10.symm; exact ⟨FJ411, u290, v292, he411_3, he411_6, he411_7, rfl, leJ411, hSJ411⟩)
             intro w412 vq412 D412 hA412 hJ412
             obtain ⟨FJ412, u290, v292, he412_3, he412_6, he412_7, he412_10, leJ412, hSJ412⟩ := (hJ412 true true true true (hA412 3 (by decide)) (hA412 6 (by decide)) (hA412 7 (by decide)) (hA412 10 (by decide)))
             refine W_eqv (t := 141) rfl he412_3 ?_
             refine W_eqv (t := 144) rfl he412_6 ?_
             refine W_eqv (t := 145) rfl he412_7 ?_
             refine W_eqv (t := 12) rfl he412_10 ?_
             obtain ⟨hp413, hy413⟩ := ix_some hx293
             obtain ⟨cs413, hr413, he413⟩ := hSJ412.rowAt (k := 3) rfl hy413
             obtain rfl := hr413
             replace he413 : El _ _ 1 _ _ := he413
             refine W_ix rfl Go.Proofs.Try.underlying22 Ty.cells3 Ty.info3 rfl rfl he413 hp413 rfl ?_
             refine W_put (c := [.int .i64 x52.vol]) 3 (x52.drive.toNat) 0 x293 x52.vol rfl rfl hSJ412 rfl (ix_some hx293).2 (by first | rfl | (show _ = _ * 1 + _; omega)) rfl Ty.size3 (by intro y hy; simp at hy; subst hy; rfl) (by first | decide | exact Nat.le_of_ble_eq_true rfl) (by rintro cs rfl; rfl) ?_
             intro w414 hS414
             refine W_nil ?_
             refine N_code ?_
             refine C_exit _ rfl ?_
             exact N_join _ ⟨l291, i39, l41, (l42.set x52.drive.toNat x52.vol), H, ⟨FJ412, v292, rfl, ((le57.trans le289).trans leJ412), hS414.pick [2, 3, 4, 5] (by decide)⟩⟩ ⟨rfl, rfl, rfl, rfl, rfl, rfl, rfl, trivial⟩
           ·
            rw [if_f hc288] at H
            refine C_skip ?_
            exact N_join _ ⟨H, ⟨F57, rfl, (Frz.le.refl _), hS57⟩⟩ ⟨rfl, rfl, rfl, rfl, rfl, rfl, rfl, rfl, trivial⟩
          ·
           rintro E w60 ⟨H, F60, rfl, le60, hS60⟩
           dsimp only [cellarerlaw22_MountsDone.k6] at H
           refine C_seq ?_
           refine C_region ?_
           refine W_assign rfl rfl ?_
           refine W_nil ?_
           refine N_code ?_
           refine C_seq_join (fun E wq => ∃ i62 : Int, cellarerlaw22_MountsDone.k7 x1 l36 i39 i40 l41 l42 rec43 x52 i62 = some r ∧ ∃ (F61 : Frz), E = [(1, v1), (8, ur7_0), (10, ur24_0), (11, v27), (12, u37), (13, .int .i64 i39), (14, .int .i64 i40), (15, pl g54 0), (17, .int .i64 i62)] ∧ F60.le F61 ∧ St [] w F F61 [.box g54 42 [.int .i64 x52.kind, .int .i64 x52.drive, .int .i64 x52.vol, .int .i64 x52.loc.vol, .int .i64 x52.loc.file, .int .i64 x52.loc.off, .int .i64 x52.loc.len], .row tBool 4 v27 l41, .row tI 3 ur24_0 l42, .row Move.t 42 ur7_0 r7.1, .row tI 3 u37 l36] wq) ?_ ?_
           ·
            refine C_block ?_
            refine C_loopM (fun (s : Int) E wq => ∃ (F208 : Frz), E = [(1, v1), (8, ur7_0), (10, ur24_0), (11, v27), (12, u37), (13, .int .i64 i39), (14, .int .i64 i40), (15, pl g54 0), (17, .int .i64 s)] ∧ F60.le F208 ∧ St [] w F F208 [.box g54 42 [.int .i64 x52.kind, .int .i64 x52.drive, .int .i64 x52.vol, .int .i64 x52.loc.vol, .int .i64 x52.loc.file, .int .i64 x52.loc.off, .int .i64 x52.loc.len], .row tBool 4 v27 l41, .row tI 3 ur24_0 l42, .row Move.t 42 ur7_0 r7.1, .row tI 3 u37 l36] wq) H ?_ ?_
            ·
             exact ⟨_, ⟨F60, rfl, (Frz.le.refl _), hS60⟩, ⟨rfl, rfl, rfl, rfl, rfl, rfl, rfl, rfl, rfl, trivial⟩⟩
            ·
             rintro rec210 i209 E w208 hI H
             try dsimp only at hI
             obtain ⟨F208, rfl, le208, hS208⟩ := hI
             dsimp only [cellarerlaw22_MountsDone.l8] at H
             refine C_seq ?_
             refine C_seq ?_
             obtain ⟨x211, hx211, H⟩ := bd_some H
             obtain ⟨x213, hx213, H⟩ := bd_some H
             refine C_join (fun E wq => E = [(1, v1), (8, ur7_0), (10, ur24_0), (11, v27), (12, u37), (13, .int .i64 i39), (14, .int .i64 i40), (15, pl g54 0), (17, .int .i64 i209), (169, .bool (decide (i209 < (x1.length : Int)) && (x211 || decide (x213.loc.vol ≠ x52.vol))))] ∧ ∃ F215 : Frz, F208.le F215 ∧ St [] w F F215 [.box g54 42 [.int .i64 x52.kind, .int .i64 x52.drive, .int .i64 x52.vol, .int .i64 x52.loc.vol, .int .i64 x52.loc.file, .int .i64 x52.loc.off, .int .i64 x52.loc.len], .row tBool 4 v27 l41, .row tI 3 ur24_0 l42, .row Move.t 42 ur7_0 r7.1, .row tI 3 u37 l36] wq) ?_ ?_
             ·
              rcases Bool.eq_false_or_eq_true (decide (i209 < (x1.length : Int))) with hb216 | hb216
              ·
               rcases Bool.eq_false_or_eq_true x211 with hb217 | hb217
               ·
                have hy218 := hx211
                rw [only_t hb216] at hy218
                obtain ⟨hp219, hy219⟩ := ix_some hy218
                obtain ⟨cs219, hr219, he219⟩ := hS208.rowAt (k := 1) rfl hy219
                obtain rfl := hr219
                replace he219 : El _ _ 1 _ _ := he219
                apply C_draw 20 [[], [], [1], [0, 2], [3], [4], [4], [5, 6, 4], [7, 4], [8, 4], [9], [9], [10, 11, 9], [12, 9], [13, 9], [14, 9], [9], [16, 9], [15, 17, 9], [9, 18, 4]] [.val (.int .i64 i209), .val (v1), .val (.int .i64 (x1.length : Int)), .val (.bool (decide (i209 < (x1.length : Int)))), .val (.bool true), .val (v27), .val (.int .i64 i209), .val (elp v27 (i209.toNat * 1)), .val (.bool x211), .val (.bool true), .val undef, .val undef, .val undef, .val undef, .val undef, .val undef, .val undef, .val undef, .val undef, .val (.bool true)] Ty.mixed rfl rfl (by kernel_rfl) (by kernel_rfl) rfl
                ·
                 refine ⟨?_, ?_, ?_, ?_, ?_, ?_, ?_, ?_, ?_, ?_, ?_, ?_, ?_, ?_, ?_, ?_, ?_, ?_, ?_, ?_, trivial⟩
                 ·
                  intro w220 vq220 hB220 hH220
                  have hS220 := hS208.below hB220
                  refine W_move rfl rfl ?_
                  refine W_nil ?_
                  exact N_step rfl rfl (Below.refl _ _)
                 ·
                  intro w221 vq221 hB221 hH221
                  have hS221 := hS208.below hB221
                  refine W_move rfl rfl ?_
                  refine W_nil ?_
                  exact N_step rfl rfl (Below.refl _ _)
                 ·
                  intro w222 vq222 hB222 hH222
                  have hS222 := hS208.below hB222
                  refine W_lenv rfl Go.Proofs.Try.underlying23 rfl h1.ln ?_
                  refine W_nil ?_
                  exact N_step rfl rfl (Below.refl _ _)
                 ·
                  intro w223 vq223 hB223 hH223
                  have hS223 := hS208.below hB223
                  refine W_lss rfl rfl rfl ?_
                  refine W_nil ?_
                  exact N_step rfl rfl (Below.refl _ _)
                 ·
                  intro w224 vq224 hB224 hH224
                  have hS224 := hS208.below hB224
                  refine W_move rfl rfl ?_
                  refine W_nil ?_
                  exact N_step rfl (congrArg Value.bool hb216) (Below.refl _ _)
                 ·
                  intro w225 vq225 hB225 hH225
                  have hS225 := hS208.below hB225
                  refine W_guard_yes rfl ?_
                  refine W_move rfl rfl ?_
                  refine W_nil ?_
                  exact N_step rfl rfl (Below.refl _ _)
                 ·
                  intro w226 vq226 hB226 hH226
                  have hS226 := hS208.below hB226
                  refine W_guard_yes rfl ?_
                  refine W_move rfl rfl ?_
                  refine W_nil ?_
                  exact N_step rfl rfl (Below.refl _ _)
                 ·
                  intro w227 vq227 hB227 hH227
                  have hS227 := hS208.below hB227
                  refine W_guard_yes rfl ?_
                  refine W_ix rfl Go.Proofs.Try.underlying40 Ty.cells4 Ty.info4 rfl rfl (he219.below hB227) hp219 rfl ?_
                  refine W_nil ?_
                  exact N_step rfl rfl (Below.refl _ _)
                 ·
                  intro w228 vq228 hB228 hH228
                  have hS228 := hS208.below hB228
                  refine W_guard_yes rfl ?_
                  refine W_ld1 0 rfl Ty.cell4 rfl (he219.below hB228) (by omega) rfl ?_
                  refine W_nil ?_
                  exact N_step rfl rfl (Below.refl _ _)
                 ·
                  intro w229 vq229 hB229 hH229
                  have hS229 := hS208.below hB229
                  refine W_guard_yes rfl ?_
                  refine W_move rfl rfl ?_
                  refine W_nil ?_
                  exact N_step rfl (congrArg Value.bool hb217) (Below.refl _ _)
                 ·
                  intro w230 vq230 hB230 hH230
                  have hS230 := hS208.below hB230
                  refine W_guard_no rfl rfl rfl rfl rfl ?_
                  refine W_nil ?_
                  exact N_step rfl rfl (Below.refl _ _)
                 ·
                  intro w231 vq231 hB231 hH231
                  have hS231 := hS208.below hB231
                  refine W_guard_no rfl rfl rfl rfl rfl ?_
                  refine W_nil ?_
                  exact N_step rfl rfl (Below.refl _ _)
                 ·
                  intro w232 vq232 hB232 hH232
                  have hS232 := hS208.below hB232
                  refine W_guard_no rfl rfl rfl rfl rfl ?_
                  refine W_nil ?_
                  exact N_step rfl rfl (Below.refl _ _)
                 ·
                  intro w233 vq233 hB233 hH233
                  have hS233 := hS208.below hB233
                  refine W_guard_no rfl rfl rfl rfl rfl ?_
                  refine W_nil ?_
                  exact N_step rfl rfl (Below.refl _ _)
                 ·
                  intro w234 vq234 hB234 hH234
                  have hS234 := hS208.below hB234
                  refine W_guard_no rfl rfl rfl rfl rfl ?_
                  refine W_nil ?_
                  exact N_step rfl rfl (Below.refl _ _)
                 ·
                  intro w235 vq235 hB235 hH235
                  have hS235 := hS208.below hB235
                  refine W_guard_no rfl rfl rfl rfl rfl ?_
                  refine W_nil ?_
                  exact N_step rfl rfl (Below.refl _ _)
                 ·
                  intro w236 vq236 hB236 hH236
                  have hS236 := hS208.below hB236
                  refine W_guard_no rfl rfl rfl rfl rfl ?_
                  refine W_nil ?_
                  exact N_step rfl rfl (Below.refl _ _)
                 ·
                  intro w237 vq237 hB237 hH237
                  have hS237 := hS208.below hB237
                  refine W_guard_no rfl rfl rfl rfl rfl ?_
                  refine W_nil ?_
                  exact N_step rfl rfl (Below.refl _ _)
                 ·
                  intro w238 vq238 hB238 hH238
                  have hS238 := hS208.below hB238
                  refine W_guard_no rfl rfl rfl rfl rfl ?_
                  refine W_nil ?_
                  exact N_step rfl rfl (Below.refl _ _)
                 ·
                  intro w239 vq239 hB239 hH239
                  have hS239 := hS208.below hB239
                  refine W_guard_yes rfl ?_
                  refine W_pick_t rfl rfl rfl ?_
                  refine W_nil ?_
                  exact N_step rfl rfl (Below.refl _ _)
                intro w240 vq240 hB240 hH240
                have hS240 := hS208.below hB240
                refine W_pick_t rfl rfl rfl ?_
                refine W_nil ?_
                exact N_join _ ⟨rfl, F208, (Frz.le.refl _), hS240⟩ ⟨rfl, rfl, rfl, rfl, rfl, rfl, rfl, rfl, rfl, (look_bool rfl (by first | rfl | (rw [hb216, hb217]; first | done | rfl) | simp [hb216, hb217])), trivial⟩
               ·
                have hy241 := hx211
                rw [only_t hb216] at hy241
                obtain ⟨hp242, hy242⟩ := ix_some hy241
                obtain ⟨cs242, hr242, he242⟩ := hS208.rowAt (k := 1) rfl hy242
                obtain rfl := hr242
                replace he242 : El _ _ 1 _ _ := he242
                have hy243 := hx213
                rw [only_t (by first | rfl | (rw [hb216, hb217]; first | done | rfl) | simp [hb216, hb217])] at hy243
                obtain ⟨hp244, hy244⟩ := ix_some hy243
                obtain ⟨cs244, hr244, he244⟩ := (h1.mono (((((((((le1.trans le5).trans le6).trans ler7).trans le12).trans ler24).trans le35).trans le57).trans le60).trans le208)).at_ hy244
                obtain rfl := hr244
                replace he244 : Elf _ _ 5 _ _ := he244
                apply C_draw 20 [[], [], [1], [0, 2], [3], [4], [4], [5, 6, 4], [7, 4], [8, 4], [9], [9], [10, 11, 9], [12, 9], [13, 9], [14, 9], [9], [16, 9], [15, 17, 9], [9, 18, 4]] [.val (.int .i64 i209), .val (v1), .val (.int .i64 (x1.length : Int)), .val (.bool (decide (i209 < (x1.length : Int)))), .val (.bool true), .val (v27), .val (.int .i64 i209), .val (elp v27 (i209.toNat * 1)), .val (.bool x211), .val (.bool false), .val (v1), .val (.int .i64 i209), .val (elp v1 (i209.toNat * 5)), .val (elp v1 ((i209.toNat * 5) + 1)), .val (elp v1 (((i209.toNat * 5) + 1) + 0)), .val (.int .i64 x213.loc.vol), .val (pl g54 (0 + 2)), .val (.int .i64 x52.vol), .val (.bool (decide (x213.loc.vol ≠ x52.vol))), .val (.bool (decide (x213.loc.vol ≠ x52.vol)))] Ty.mixed rfl rfl (by kernel_rfl) (by kernel_rfl) rfl
                ·
                 refine ⟨?_, ?_, ?_, ?_, ?_, ?_, ?_, ?_, ?_, ?_, ?_, ?_, ?_, ?_, ?_, ?_, ?_, ?_, ?_, ?_, trivial⟩
                 ·
                  intro w245 vq245 hB245 hH245
                  have hS245 := hS208.below hB245
                  refine W_move rfl rfl ?_
                  refine W_nil ?_
                  exact N_step rfl rfl (Below.refl _ _)
                 ·
                  intro w246 vq246 hB246 hH246
                  have hS246 := hS208.below hB246
                  refine W_move rfl rfl ?_
                  refine W_nil ?_
                  exact N_step rfl rfl (Below.refl _ _)
                 ·
                  intro w247 vq247 hB247 hH247
                  have hS247 := hS208.below hB247
                  refine W_lenv rfl Go.Proofs.Try.underlying23 rfl h1.ln ?_
                  refine W_nil ?_
                  exact N_step rfl rfl (Below.refl _ _)
                 ·
                  intro w248 vq248 hB248 hH248
                  have hS248 := hS208.below hB248
                  refine W_lss rfl rfl rfl ?_
                  refine W_nil ?_
                  exact N_step rfl rfl (Below.refl _ _)
                 ·
                  intro w249 vq249 hB249 hH249
                  have hS249 := hS208.below hB249
                  refine W_move rfl rfl ?_
                  refine W_nil ?_
                  exact N_step rfl (congrArg Value.bool hb216) (Below.refl _ _)
                 ·
                  intro w250 vq250 hB250 hH250
                  have hS250 := hS208.below hB250
                  refine W_guard_yes rfl ?_
                  refine W_move rfl rfl ?_
                  refine W_nil ?_
                  exact N_step rfl rfl (Below.refl _ _)
                 ·
                  intro w251 vq251 hB251 hH251
                  have hS251 := hS208.below hB251
                  refine W_guard_yes rfl ?_
                  refine W_move rfl rfl ?_
                  refine W_nil ?_
                  exact N_step rfl rfl (Below.refl _ _)
                 ·
                  intro w252 vq252 hB252 hH252
                  have hS252 := hS208.below hB252
                  refine W_guard_yes rfl ?_
                  refine W_ix rfl Go.Proofs.Try.underlying40 Ty.cells4 Ty.info4 rfl rfl (he242.below hB252) hp242 rfl ?_
                  refine W_nil ?_
                  exact N_step rfl rfl (Below.refl _ _)
                 ·
                  intro w253 vq253 hB253 hH253
                  have hS253 := hS208.below hB253
                  refine W_guard_yes rfl ?_
                  refine W_ld1 0 rfl Ty.cell4 rfl (he242.below hB253) (by omega) rfl ?_
                  refine W_nil ?_
                  exact N_step rfl rfl (Below.refl _ _)
                 ·
                  intro w254 vq254 hB254 hH254
                  have hS254 := hS208.below hB254
                  refine W_guard_yes rfl ?_
                  refine W_move rfl rfl ?_
                  refine W_nil ?_
                  exact N_step rfl (congrArg Value.bool hb217) (Below.refl _ _)
                 ·
                  intro w255 vq255 hB255 hH255
                  have hS255 := hS208.below hB255
                  refine W_guard_yes rfl ?_
                  refine W_move rfl rfl ?_
                  refine W_nil ?_
                  exact N_step rfl rfl (Below.refl _ _)
                 ·
                  intro w256 vq256 hB256 hH256
                  have hS256 := hS208.below hB256
                  refine W_guard_yes rfl ?_
                  refine W_move rfl rfl ?_
                  refine W_nil ?_
                  exact N_step rfl rfl (Below.refl _ _)
                 ·
                  intro w257 vq257 hB257 hH257
                  have hS257 := hS208.below hB257
                  refine W_guard_yes rfl ?_
                  refine W_ix rfl Go.Proofs.Try.underlying23 Ty.cells39 Ty.info39 rfl rfl (he244.el hS257.agree) hp244 rfl ?_
                  refine W_nil ?_
                  exact N_step rfl rfl (Below.refl _ _)
                 ·
                  intro w258 vq258 hB258 hH258
                  have hS258 := hS208.below hB258
                  refine W_guard_yes rfl ?_
                  refine W_fld 1 rfl Ty.field39_1 rfl (he244.el hS258.agree) ?_
                  refine W_nil ?_
                  exact N_step rfl rfl (Below.refl _ _)
                 ·
                  intro w259 vq259 hB259 hH259
                  have hS259 := hS208.below hB259
                  refine W_guard_yes rfl ?_
                  refine W_fld 0 rfl Ty.field37_0 rfl (he244.el hS259.agree) ?_
                  refine W_nil ?_
                  exact N_step rfl rfl (Below.refl _ _)
                 ·
                  intro w260 vq260 hB260 hH260
                  have hS260 := hS208.below hB260
                  refine W_guard_yes rfl ?_
                  refine W_ld1 1 rfl Ty.cell3 rfl (he244.el hS260.agree) (by omega) rfl ?_
                  refine W_nil ?_
                  exact N_step rfl rfl (Below.refl _ _)
                 ·
                  intro w261 vq261 hB261 hH261
                  have hS261 := hS208.below hB261
                  refine W_guard_yes rfl ?_
                  refine W_field_pl 2 rfl Ty.field42_2 rfl ?_
                  refine W_nil ?_
                  exact N_step rfl rfl (Below.refl _ _)
                 ·
                  intro w262 vq262 hB262 hH262
                  have hS262 := hS208.below hB262
                  refine W_guard_yes rfl ?_
                  refine W_bld1 0 rfl Ty.cell3 rfl hS262 rfl rfl ?_
                  refine W_nil ?_
                  exact N_step rfl rfl (Below.refl _ _)
                 ·
                  intro w263 vq263 hB263 hH263
                  have hS263 := hS208.below hB263
                  refine W_guard_yes rfl ?_
                  refine W_neq rfl rfl rfl ?_
                  refine W_nil ?_
                  exact N_step rfl rfl (Below.refl _ _)
                 ·
                  intro w264 vq264 hB264 hH264
                  have hS264 := hS208.below hB264
                  refine W_guard_yes rfl ?_
                  refine W_pick_f rfl rfl rfl ?_
                  refine W_nil ?_
                  exact N_step rfl rfl (Below.refl _ _)
                intro w265 vq265 hB265 hH265
                have hS265 := hS208.below hB265
                refine W_pick_t rfl rfl rfl ?_
                refine W_nil ?_
                exact N_join _ ⟨rfl, F208, (Frz.le.refl _), hS265⟩ ⟨rfl, rfl, rfl, rfl, rfl, rfl, rfl, rfl, rfl, (look_bool rfl (by first | rfl | (rw [hb216, hb217]; first | done | rfl) | simp [hb216, hb217])), trivial⟩
              ·
               apply C_draw 20 [[], [], [1], [0, 2], [3], [4], [4], [5, 6, 4], [7, 4], [8, 4], [9], [9], [10, 11, 9], [12, 9], [13, 9], [14, 9], [9], [16, 9], [15, 17, 9], [9, 18, 4]] [.val (.int .i64 i209), .val (v1), .val (.int .i64 (x1.length : Int)), .val (.bool (decide (i209 < (x1.length : Int)))), .val (.bool false), .val undef, .val undef, .val undef, .val undef, .val undef, .val undef, .val undef, .val undef, .val undef, .val undef, .val undef, .val undef, .val undef, .val undef, .val undef] Ty.mixed rfl rfl (by kernel_rfl) (by kernel_rfl) rfl
               ·
                refine ⟨?_, ?_, ?_, ?_, ?_, ?_, ?_, ?_, ?_, ?_, ?_, ?_, ?_, ?_, ?_, ?_, ?_, ?_, ?_, ?_, trivial⟩
                ·
                 intro w266 vq266 hB266 hH266
                 have hS266 := hS208.below hB266
                 refine W_move rfl rfl ?_
                 refine W_nil ?_
                 exact N_step rfl rfl (Below.refl _ _)
                ·
                 intro w267 vq267 hB267 hH267
                 have hS267 := hS208.below hB267
                 refine W_move rfl rfl ?_
                 refine W_nil ?_
                 exact N_step rfl rfl (Below.refl _ _)
                ·
                 intro w268 vq268 hB268 hH268
                 have hS268 := hS208.below hB268
                 refine W_lenv rfl Go.Proofs.Try.underlying23 rfl h1.ln ?_
                 refine W_nil ?_
                 exact N_step rfl rfl (Below.refl _ _)
                ·
                 intro w269 vq269 hB269 hH269
                 have hS269 := hS208.below hB269
                 refine W_lss rfl rfl rfl ?_
                 refine W_nil ?_
                 exact N_step rfl rfl (Below.refl _ _)
                ·
                 intro w270 vq270 hB270 hH270
                 have hS270 := hS208.below hB270
                 refine W_move rfl rfl ?_
                 refine W_nil ?_
                 exact N_step rfl (congrArg Value.bool hb216) (Below.refl _ _)
                ·
                 intro w271 vq271 hB271 hH271
                 have hS271 := hS208.below hB271
                 refine W_guard_no rfl rfl rfl rfl rfl ?_
                 refine W_nil ?_
                 exact N_step rfl rfl (Below.refl _ _)
                ·
                 intro w272 vq272 hB272 hH272
                 have hS272 := hS208.below hB272
                 refine W_guard_no rfl rfl rfl rfl rfl ?_
                 refine W_nil ?_
                 exact N_step rfl rfl (Below.refl _ _)
                ·
                 intro w273 vq273 hB273 hH273
                 have hS273 := hS208.below hB273
                 refine W_guard_no rfl rfl rfl rfl rfl ?_
                 refine W_nil ?_
                 exact N_step rfl rfl (Below.refl _ _)
                ·
                 intro w274 vq274 hB274 hH274
                 have hS274 := hS208.below hB274
                 refine W_guard_no rfl rfl rfl rfl rfl ?_
                 refine W_nil ?_
                 exact N_step rfl rfl (Below.refl _ _)
                ·
                 intro w275 vq275 hB275 hH275
                 have hS275 := hS208.below hB275
                 refine W_guard_no rfl rfl rfl rfl rfl ?_
                 refine W_nil ?_
                 exact N_step rfl rfl (Below.refl _ _)
                ·
                 intro w276 vq276 hB276 hH276
                 have hS276 := hS208.below hB276
                 refine W_guard_un rfl rfl rfl rfl ?_
                 refine W_nil ?_
                 exact N_step rfl rfl (Below.refl _ _)
                ·
                 intro w277 vq277 hB277 hH277
                 have hS277 := hS208.below hB277
                 refine W_guard_un rfl rfl rfl rfl ?_
                 refine W_nil ?_
                 exact N_step rfl rfl (Below.refl _ _)
                ·
                 intro w278 vq278 hB278 hH278
                 have hS278 := hS208.below hB278
                 refine W_guard_un rfl rfl rfl rfl ?_
                 refine W_nil ?_
                 exact N_step rfl rfl (Below.refl _ _)
                ·
                 intro w279 vq279 hB279 hH279
                 have hS279 := hS208.below hB279
                 refine W_guard_un rfl rfl rfl rfl ?_
                 refine W_nil ?_
                 exact N_step rfl rfl (Below.refl _ _)
                ·
                 intro w280 vq280 hB280 hH280
                 have hS280 := hS208.below hB280
                 refine W_guard_un rfl rfl rfl rfl ?_
                 refine W_nil ?_
                 exact N_step rfl rfl (Below.refl _ _)
                ·
                 intro w281 vq281 hB281 hH281
                 have hS281 := hS208.below hB281
                 refine W_guard_un rfl rfl rfl rfl ?_
                 refine W_nil ?_
                 exact N_step rfl rfl (Below.refl _ _)
                ·
                 intro w282 vq282 hB282 hH282
                 have hS282 := hS208.below hB282
                 refine W_guard_un rfl rfl rfl rfl ?_
                 refine W_nil ?_
                 exact N_step rfl rfl (Below.refl _ _)
                ·
                 intro w283 vq283 hB283 hH283
                 have hS283 := hS208.below hB283
                 refine W_guard_un rfl rfl rfl rfl ?_
                 refine W_nil ?_
                 exact N_step rfl rfl (Below.refl _ _)
                ·
                 intro w284 vq284 hB284 hH284
                 have hS284 := hS208.below hB284
                 refine W_guard_un rfl rfl rfl rfl ?_
                 refine W_nil ?_
                 exact N_step rfl rfl (Below.refl _ _)
                ·
                 intro w285 vq285 hB285 hH285
                 have hS285 := hS208.below hB285
                 refine W_guard_no rfl rfl rfl rfl rfl ?_
                 refine W_nil ?_
                 exact N_step rfl rfl (Below.refl _ _)
               intro w286 vq286 hB286 hH286
               have hS286 := hS208.below hB286
               refine W_pick_f rfl rfl rfl ?_
               refine W_nil ?_
               exact N_join _ ⟨rfl, F208, (Frz.le.refl _), hS286⟩ ⟨rfl, rfl, rfl, rfl, rfl, rfl, rfl, rfl, rfl, (look_bool rfl (by first | rfl | (rw [hb216]; first | done | rfl) | simp [hb216])), trivial⟩
             rintro E w215 ⟨rfl, F215, le215, hS215⟩
             refine N_code ?_
             refine C_cond rfl (fun hc287 => ?_) (fun hc287 => ?_)
             ·
              rw [if_t hc287] at H
              refine C_skip ?_
              refine N_code ?_
              refine C_block ?_
              refine C_region ?_
              refine W_move rfl rfl ?_
              refine W_add rfl rfl rfl rfl ?_
              refine W_assign rfl rfl ?_
              refine W_nil ?_
              refine N_block ?_
              exact N_againM (wr (i209 + 1)) _ H ⟨F215, rfl, (le208.trans le215), hS215⟩ ⟨rfl, rfl, rfl, rfl, rfl, rfl, rfl, rfl, rfl, trivial⟩
             ·
              rw [if_f hc287] at H
              refine C_exit _ rfl ?_
              exact N_join _ ⟨i209, H, ⟨F215, rfl, (le208.trans le215), hS215⟩⟩ ⟨rfl, rfl, rfl, rfl, rfl, rfl, rfl, rfl, rfl, trivial⟩
           ·
            rintro E w61 ⟨i62, H, F61, rfl, le61, hS61⟩
            dsimp only [cellarerlaw22_MountsDone.k7] at H
            refine C_seq ?_
            refine C_seq ?_
            obtain ⟨x63, hx63, H⟩ := bd_some H
            obtain ⟨x65, hx65, H⟩ := bd_some H
            obtain ⟨r67, hr67, H⟩ := bd_some H
            refine C_join (fun E wq => E = [(1, v1), (8, ur7_0), (10, ur24_0), (11, v27), (12, u37), (13, .int .i64 i39), (14, .int .i64 i40), (17, .int .i64 i62), (201, .bool (((decide (x52.kind ≠ 2) || decide (x63 ≠ x52.vol)) || decide (i62 = (x1.length : Int))) || (!r67)))] ∧ ∃ F68 : Frz, F61.le F68 ∧ St [] w F F68 [.box g54 42 [.int .i64 x52.kind, .int .i64 x52.drive, .int .i64 x52.vol, .int .i64 x52.loc.vol, .int .i64 x52.loc.file, .int .i64 x52.loc.off, .int .i64 x52.loc.len], .row tBool 4 v27 l41, .row tI 3 ur24_0 l42, .row Move.t 42 ur7_0 r7.1, .row tI 3 u37 l36] wq) ?_ ?_
            ·
             rcases Bool.eq_false_or_eq_true (decide (x52.kind ≠ 2)) with hb69 | hb69
             ·
              apply C_draw 29 [[], [0], [1], [2], [3], [3], [5, 3], [4, 6, 3], [7, 3], [3], [9, 3], [8, 10, 3], [3, 11], [12], [13], [13], [15, 13], [14, 16, 13], [13, 17], [18], [19], [19], [20, 21, 19], [22, 19], [23, 19], [19], [25, 19], [24, 26, 19], [27, 19]] [.val (pl g54 (0 + 0)), .val (.int .i64 x52.kind), .val (.bool (decide (x52.kind ≠ 2))), .val (.bool true), .val undef, .val undef, .val undef, .val undef, .val undef, .val undef, .val undef, .val undef, .val (.bool true), .val (.bool true), .val undef, .val undef, .val undef, .val undef, .val (.bool true), .val (.bool true), .val undef, .val undef, .val undef, .val undef, .val undef, .val undef, .val undef, .val undef, .val undef] Ty.mixed rfl rfl (by kernel_rfl) (by kernel_rfl) rfl
              ·
               refine ⟨?_, ?_, ?_, ?_, ?_, ?_, ?_, ?_, ?_, ?_, ?_, ?_, ?_, ?_, ?_, ?_, ?_, ?_, ?_, ?_, ?_, ?_, ?_, ?_, ?_, ?_, ?_, ?_, ?_, trivial⟩
               ·
                intro w70 vq70 hB70 hH70
                have hS70 := hS61.below hB70
                refine W_field_pl 0 rfl Ty.field42_0 rfl ?_
                refine W_nil ?_
                exact N_step rfl rfl (Below.refl _ _)
               ·
                intro w71 vq71 hB71 hH71
                have hS71 := hS61.below hB71
                refine W_bld1 0 rfl Ty.cell3 rfl hS71 rfl rfl ?_
                refine W_nil ?_
                exact N_step rfl rfl (Below.refl _ _)
               ·
                intro w72 vq72 hB72 hH72
                have hS72 := hS61.below hB72
                refine W_neq rfl rfl rfl ?_
                refine W_nil ?_
                exact N_step rfl rfl (Below.refl _ _)
               ·
                intro w73 vq73 hB73 hH73
                have hS73 := hS61.below hB73
                refine W_move rfl rfl ?_
                refine W_nil ?_
                exact N_step rfl (congrArg Value.bool hb69) (Below.refl _ _)
               ·
                intro w74 vq74 hB74 hH74
                have hS74 := hS61.below hB74
                refine W_guard_no rfl rfl rfl rfl rfl ?_
                refine W_nil ?_
                exact N_step rfl rfl (Below.refl _ _)
               ·
                intro w75 vq75 hB75 hH75
                have hS75 := hS61.below hB75
                refine W_guard_no rfl rfl rfl rfl rfl ?_
                refine W_nil ?_
                exact N_step rfl rfl (Below.refl _ _)
               ·
                intro w76 vq76 hB76 hH76
                have hS76 := hS61.below hB76
                refine W_guard_no rfl rfl rfl rfl rfl ?_
                refine W_nil ?_
                exact N_step rfl rfl (Below.refl _ _)
               ·
                intro w77 vq77 hB77 hH77
                have hS77 := hS61.below hB77
                refine W_guard_no rfl rfl rfl rfl rfl ?_
                refine W_nil ?_
                exact N_step rfl rfl (Below.refl _ _)
               ·
                intro w78 vq78 hB78 hH78
                have hS78 := hS61.below hB78
                refine W_guard_no rfl rfl rfl rfl rfl ?_
                refine W_nil ?_
                exact N_step rfl rfl (Below.refl _ _)
               ·
                intro w79 vq79 hB79 hH79
                have hS79 := hS61.below hB79
                refine W_guard_no rfl rfl rfl rfl rfl ?_
                refine W_nil ?_
                exact N_step rfl rfl (Below.refl _ _)
               ·
                intro w80 vq80 hB80 hH80
                have hS80 := hS61.below hB80
                refine W_guard_no rfl rfl rfl rfl rfl ?_
                refine W_nil ?_
                exact N_step rfl rfl (Below.refl _ _)
               ·
                intro w81 vq81 hB81 hH81
                have hS81 := hS61.below hB81
                refine W_guard_no rfl rfl rfl rfl rfl ?_
                refine W_nil ?_
                exact N_step rfl rfl (Below.refl _ _)
               ·
                intro w82 vq82 hB82 hH82
                have hS82 := hS61.below hB82
                refine W_pick_t rfl rfl rfl ?_
                refine W_nil ?_
                exact N_step rfl rfl (Below.refl _ _)
               ·
                intro w83 vq83 hB83 hH83
                have hS83 := hS61.below hB83
                refine W_move rfl rfl ?_
                refine W_nil ?_
                exact N_step rfl rfl (Below.refl _ _)
               ·
                intro w84 vq84 hB84 hH84
                have hS84 := hS61.below hB84
                refine W_guard_no rfl rfl rfl rfl rfl ?_
                refine W_nil ?_
                exact N_step rfl rfl (Below.refl _ _)
               ·
                intro w85 vq85 hB85 hH85
                have hS85 := hS61.below hB85
                refine W_guard_no rfl rfl rfl rfl rfl ?_
                refine W_nil ?_
                exact N_step rfl rfl (Below.refl _ _)
               ·
                intro w86 vq86 hB86 hH86
                have hS86 := hS61.below hB86
                refine W_guard_no rfl rfl rfl rfl rfl ?_
                refine W_nil ?_
                exact N_step rfl rfl (Below.refl _ _)
               ·
                intro w87 vq87 hB87 hH87
                have hS87 := hS61.below hB87
                refine W_guard_no rfl rfl rfl rfl rfl ?_
                refine W_nil ?_
                exact N_step rfl rfl (Below.refl _ _)
               ·
                intro w88 vq88 hB88 hH88
                have hS88 := hS61.below hB88
                refine W_pick_t rfl rfl rfl ?_
                refine W_nil ?_
                exact N_step rfl rfl (Below.refl _ _)
               ·
                intro w89 vq89 hB89 hH89
                have hS89 := hS61.below hB89
                refine W_move rfl rfl ?_
                refine W_nil ?_
                exact N_step rfl rfl (Below.refl _ _)
               ·
                intro w90 vq90 hB90 hH90
                have hS90 := hS61.below hB90
                refine W_guard_no rfl rfl rfl rfl rfl ?_
                refine W_nil ?_
                exact N_step rfl rfl (Below.refl _ _)
               ·
                intro w91 vq91 hB91 hH91
                have hS91 := hS61.below hB91
                refine W_guard_no rfl rfl rfl rfl rfl ?_
                refine W_nil ?_
                exact N_step rfl rfl (Below.refl _ _)
               ·
                intro w92 vq92 hB92 hH92
                have hS92 := hS61.below hB92
                refine W_guard_no rfl rfl rfl rfl rfl ?_
                refine W_nil ?_
                exact N_step rfl rfl (Below.refl _ _)
               ·
                intro w93 vq93 hB93 hH93
                have hS93 := hS61.below hB93
                refine W_guard_no rfl rfl rfl rfl rfl ?_
                refine W_nil ?_
                exact N_step rfl rfl (Below.refl _ _)
               ·
                intro w94 vq94 hB94 hH94
                have hS94 := hS61.below hB94
                refine W_guard_no rfl rfl rfl rfl rfl ?_
                refine W_nil ?_
                exact N_step rfl rfl (Below.refl _ _)
               ·
                intro w95 vq95 hB95 hH95
                have hS95 := hS61.below hB95
                refine W_guard_no rfl rfl rfl rfl rfl ?_
                refine W_nil ?_
                exact N_step rfl rfl (Below.refl _ _)
               ·
                intro w96 vq96 hB96 hH96
                have hS96 := hS61.below hB96
                refine W_guard_no rfl rfl rfl rfl rfl ?_
                refine W_nil ?_
                exact N_step rfl rfl (Below.refl _ _)
               ·
                intro w97 vq97 hB97 hH97
                have hS97 := hS61.below hB97
                refine W_guard_no rfl rfl rfl rfl rfl ?_
                refine W_nil ?_
                exact N_step rfl rfl (Below.refl _ _)
               ·
                intro w98 vq98 hB98 hH98
                have hS98 := hS61.below hB98
                refine W_guard_no rfl rfl rfl rfl rfl ?_
                refine W_nil ?_
                exact N_step rfl rfl (Below.refl _ _)
              intro w99 vq99 hB99 hH99
              have hS99 := hS61.below hB99
              refine W_pick_t rfl rfl rfl ?_
              refine W_nil ?_
              exact N_join _ ⟨rfl, F61, (Frz.le.refl _), hS99⟩ ⟨rfl, rfl, rfl, rfl, rfl, rfl, rfl, rfl, (look_bool rfl (by first | rfl | (rw [hb69]; first | done | rfl) | simp [hb69])), trivial⟩
             ·
              rcases Bool.eq_false_or_eq_true (decide (x63 ≠ x52.vol)) with hb100 | hb100
              ·
               have hy101 := hx63
               rw [only_t (by first | rfl | (rw [hb69]; first | done | rfl) | simp [hb69, hb100])] at hy101
               obtain ⟨hp102, hy102⟩ := ix_some hy101
               obtain ⟨cs102, hr102, he102⟩ := hS61.rowAt (k := 2) rfl hy102
               obtain rfl := hr102
               replace he102 : El _ _ 1 _ _ := he102
               apply C_draw 29 [[], [0], [1], [2], [3], [3], [5, 3], [4, 6, 3], [7, 3], [3], [9, 3], [8, 10, 3], [3, 11], [12], [13], [13], [15, 13], [14, 16, 13], [13, 17], [18], [19], [19], [20, 21, 19], [22, 19], [23, 19], [19], [25, 19], [24, 26, 19], [27, 19]] [.val (pl g54 (0 + 0)), .val (.int .i64 x52.kind), .val (.bool (decide (x52.kind ≠ 2))), .val (.bool false), .val (ur24_0), .val (pl g54 (0 + 1)), .val (.int .i64 x52.drive), .val (elp ur24_0 (x52.drive.toNat * 1)), .val (.int .i64 x63), .val (pl g54 (0 + 2)), .val (.int .i64 x52.vol), .val (.bool (decide (x63 ≠ x52.vol))), .val (.bool (decide (x63 ≠ x52.vol))), .val (.bool true), .val undef, .val undef, .val undef, .val undef, .val (.bool true), .val (.bool true), .val undef, .val undef, .val undef, .val undef, .val undef, .val undef, .val undef, .val undef, .val undef] Ty.mixed rfl rfl (by kernel_rfl) (by kernel_rfl) rfl
               ·
                refine ⟨?_, ?_, ?_, ?_, ?_, ?_, ?_, ?_, ?_, ?_, ?_, ?_, ?_, ?_, ?_, ?_, ?_, ?_, ?_, ?_, ?_, ?_, ?_, ?_, ?_, ?_, ?_, ?_, ?_, trivial⟩
                ·
                 intro w103 vq103 hB103 hH103
                 have hS103 := hS61.below hB103
                 refine W_field_pl 0 rfl Ty.field42_0 rfl ?_
                 refine W_nil ?_
                 exact N_step rfl rfl (Below.refl _ _)
                ·
                 intro w104 vq104 hB104 hH104
                 have hS104 := hS61.below hB104
                 refine W_bld1 0 rfl Ty.cell3 rfl hS104 rfl rfl ?_
                 refine W_nil ?_
                 exact N_step rfl rfl (Below.refl _ _)
                ·
                 intro w105 vq105 hB105 hH105
                 have hS105 := hS61.below hB105
                 refine W_neq rfl rfl rfl ?_
                 refine W_nil ?_
                 exact N_step rfl rfl (Below.refl _ _)
                ·
                 intro w106 vq106 hB106 hH106
                 have hS106 := hS61.below hB106
                 refine W_move rfl rfl ?_
                 refine W_nil ?_
                 exact N_step rfl (congrArg Value.bool hb69) (Below.refl _ _)
                ·
                 intro w107 vq107 hB107 hH107
                 have hS107 := hS61.below hB107
                 refine W_guard_yes rfl ?_
                 refine W_move rfl rfl ?_
                 refine W_nil ?_
                 exact N_step rfl rfl (Below.refl _ _)
                ·
                 intro w108 vq108 hB108 hH108
                 have hS108 := hS61.below hB108
                 refine W_guard_yes rfl ?_
                 refine W_field_pl 1 rfl Ty.field42_1 rfl ?_
                 refine W_nil ?_
                 exact N_step rfl rfl (Below.refl _ _)
                ·
                 intro w109 vq109 hB109 hH109
                 have hS109 := hS61.below hB109
                 refine W_guard_yes rfl ?_
                 refine W_bld1 0 rfl Ty.cell3 rfl hS109 rfl rfl ?_
                 refine W_nil ?_
                 exact N_step rfl rfl (Below.refl _ _)
                ·
                 intro w110 vq110 hB110 hH110
                 have hS110 := hS61.below hB110
                 refine W_guard_yes rfl ?_
                 refine W_ix rfl Go.Proofs.Try.underlying22 Ty.cells3 Ty.info3 rfl rfl (he102.below hB110) hp102 rfl ?_
                 refine W_nil ?_
                 exact N_step rfl rfl (Below.refl _ _)
                ·
                 intro w111 vq111 hB111 hH111
                 have hS111 := hS61.below hB111
                 refine W_guard_yes rfl ?_
                 refine W_ld1 0 rfl Ty.cell3 rfl (he102.below hB111) (by omega) rfl ?_
                 refine W_nil ?_
                 exact N_step rfl rfl (Below.refl _ _)
                ·
                 intro w112 vq112 hB112 hH112
                 have hS112 := hS61.below hB112
                 refine W_guard_yes rfl ?_
                 refine W_field_pl 2 rfl Ty.field42_2 rfl ?_
                 refine W_nil ?_
                 exact N_step rfl rfl (Below.refl _ _)
                ·
                 intro w113 vq113 hB113 hH113
                 have hS113 := hS61.below hB113
                 refine W_guard_yes rfl ?_
                 refine W_bld1 0 rfl Ty.cell3 rfl hS113 rfl rfl ?_
                 refine W_nil ?_
                 exact N_step rfl rfl (Below.refl _ _)
                ·
                 intro w114 vq114 hB114 hH114
                 have hS114 := hS61.below hB114
                 refine W_guard_yes rfl ?_
                 refine W_neq rfl rfl rfl ?_
                 refine W_nil ?_
                 exact N_step rfl rfl (Below.refl _ _)
                ·
                 intro w115 vq115 hB115 hH115
                 have hS115 := hS61.below hB115
                 refine W_pick_f rfl rfl rfl ?_
                 refine W_nil ?_
                 exact N_step rfl rfl (Below.refl _ _)
                ·
                 intro w116 vq116 hB116 hH116
                 have hS116 := hS61.below hB116
                 refine W_move rfl rfl ?_
                 refine W_nil ?_
                 exact N_step rfl (congrArg Value.bool hb100) (Below.refl _ _)
                ·
                 intro w117 vq117 hB117 hH117
                 have hS117 := hS61.below hB117
                 refine W_guard_no rfl rfl rfl rfl rfl ?_
                 refine W_nil ?_
                 exact N_step rfl rfl (Below.refl _ _)
                ·
                 intro w118 vq118 hB118 hH118
                 have hS118 := hS61.below hB118
                 refine W_guard_no rfl rfl rfl rfl rfl ?_
                 refine W_nil ?_
                 exact N_step rfl rfl (Below.refl _ _)
                ·
                 intro w119 vq119 hB119 hH119
                 have hS119 := hS61.below hB119
                 refine W_guard_no rfl rfl rfl rfl rfl ?_
                 refine W_nil ?_
                 exact N_step rfl rfl (Below.refl _ _)
                ·
                 intro w120 vq120 hB120 hH120
                 have hS120 := hS61.below hB120
                 refine W_guard_no rfl rfl rfl rfl rfl ?_
                 refine W_nil ?_
                 exact N_step rfl rfl (Below.refl _ _)
                ·
                 intro w121 vq121 hB121 hH121
                 have hS121 := hS61.below hB121
                 refine W_pick_t rfl rfl rfl ?_
                 refine W_nil ?_
                 exact N_step rfl rfl (Below.refl _ _)
                ·
                 intro w122 vq122 hB122 hH122
                 have hS122 := hS61.below hB122
                 refine W_move rfl rfl ?_
                 refine W_nil ?_
                 exact N_step rfl rfl (Below.refl _ _)
                ·
                 intro w123 vq123 hB123 hH123
                 have hS123 := hS61.below hB123
                 refine W_guard_no rfl rfl rfl rfl rfl ?_
                 refine W_nil ?_
                 exact N_step rfl rfl (Below.refl _ _)
                ·
                 intro w124 vq124 hB124 hH124
                 have hS124 := hS61.below hB124
                 refine W_guard_no rfl rfl rfl rfl rfl ?_
                 refine W_nil ?_
                 exact N_step rfl rfl (Below.refl _ _)
                ·
                 intro w125 vq125 hB125 hH125
                 have hS125 := hS61.below hB125
                 refine W_guard_no rfl rfl rfl rfl rfl ?_
                 refine W_nil ?_
                 exact N_step rfl rfl (Below.refl _ _)
                ·
                 intro w126 vq126 hB126 hH126
                 have hS126 := hS61.below hB126
                 refine W_guard_no rfl rfl rfl rfl rfl ?_
                 refine W_nil ?_
                 exact N_step rfl rfl (Below.refl _ _)
                ·
                 intro w127 vq127 hB127 hH127
                 have hS127 := hS61.below hB127
                 refine W_guard_no rfl rfl rfl rfl rfl ?_
                 refine W_nil ?_
                 exact N_step rfl rfl (Below.refl _ _)
                ·
                 intro w128 vq128 hB128 hH128
                 have hS128 := hS61.below hB128
                 refine W_guard_no rfl rfl rfl rfl rfl ?_
                 refine W_nil ?_
                 exact N_step rfl rfl (Below.refl _ _)
                ·
                 intro w129 vq129 hB129 hH129
                 have hS129 := hS61.below hB129
                 refine W_guard_no rfl rfl rfl rfl rfl ?_
                 refine W_nil ?_
                 exact N_step rfl rfl (Below.refl _ _)
                ·
                 intro w130 vq130 hB130 hH130
                 have hS130 := hS61.below hB130
                 refine W_guard_no rfl rfl rfl rfl rfl ?_
                 refine W_nil ?_
                 exact N_step rfl rfl (Below.refl _ _)
                ·
                 intro w131 vq131 hB131 hH131
                 have hS131 := hS61.below hB131
                 refine W_guard_no rfl rfl rfl rfl rfl ?_
                 refine W_nil ?_
                 exact N_step rfl rfl (Below.refl _ _)
               intro w132 vq132 hB132 hH132
               have hS132 := hS61.below hB132
               refine W_pick_t rfl rfl rfl ?_
               refine W_nil ?_
               exact N_join _ ⟨rfl, F61, (Frz.le.refl _), hS132⟩ ⟨rfl, rfl, rfl, rfl, rfl, rfl, rfl, rfl, (look_bool rfl (by first | rfl | (rw [hb100, hb69]; first | done | rfl) | simp [hb69, hb100])), trivial⟩
              ·
               rcases Bool.eq_false_or_eq_true (decide (i62 = (x1.length : Int))) with hb133 | hb133
               ·
                have hy134 := hx63
                rw [only_t (by first | rfl | (rw [hb69]; first | done | rfl) | simp [hb69, hb100, hb133])] at hy134
                obtain ⟨hp135, hy135⟩ := ix_some hy134
                obtain ⟨cs135, hr135, he135⟩ := hS61.rowAt (k := 2) rfl hy135
                obtain rfl := hr135
                replace he135 : El _ _ 1 _ _ := he135
                apply C_draw 29 [[], [0], [1], [2], [3], [3], [5, 3], [4, 6, 3], [7, 3], [3], [9, 3], [8, 10, 3], [3, 11], [12], [13], [13], [15, 13], [14, 16, 13], [13, 17], [18], [19], [19], [20, 21, 19], [22, 19], [23, 19], [19], [25, 19], [24, 26, 19], [27, 19]] [.val (pl g54 (0 + 0)), .val (.int .i64 x52.kind), .val (.bool (decide (x52.kind ≠ 2))), .val (.bool false), .val (ur24_0), .val (pl g54 (0 + 1)), .val (.int .i64 x52.drive), .val (elp ur24_0 (x52.drive.toNat * 1)), .val (.int .i64 x63), .val (pl g54 (0 + 2)), .val (.int .i64 x52.vol), .val (.bool (decide (x63 ≠ x52.vol))), .val (.bool (decide (x63 ≠ x52.vol))), .val (.bool false), .val (.int .i64 i62), .val (v1), .val (.int .i64 (x1.length : Int)), .val (.bool (decide (i62 = (x1.length : Int)))), .val (.bool (decide (i62 = (x1.length : Int)))), .val (.bool true), .val undef, .val undef, .val undef, .val undef, .val undef, .val undef, .val undef, .val undef, .val undef] Ty.mixed rfl rfl (by kernel_rfl) (by kernel_rfl) rfl
                ·
                 refine ⟨?_, ?_, ?_, ?_, ?_, ?_, ?_, ?_, ?_, ?_, ?_, ?_, ?_, ?_, ?_, ?_, ?_, ?_, ?_, ?_, ?_, ?_, ?_, ?_, ?_, ?_, ?_, ?_, ?_, trivial⟩
                 ·
                  intro w136 vq136 hB136 hH136
                  have hS136 := hS61.below hB136
                  refine W_field_pl 0 rfl Ty.field42_0 rfl ?_
                  refine W_nil ?_
                  exact N_step rfl rfl (Below.refl _ _)
                 ·
                  intro w137 vq137 hB137 hH137
                  have hS137 := hS61.below hB137
                  refine W_bld1 0 rfl Ty.cell3 rfl hS137 rfl rfl ?_
                  refine W_nil ?_
                  exact N_step rfl rfl (Below.refl _ _)
                 ·
                  intro w138 vq138 hB138 hH138
                  have hS138 := hS61.below hB138
                  refine W_neq rfl rfl rfl ?_
                  refine W_nil ?_
                  exact N_step rfl rfl (Below.refl _ _)
                 ·
                  intro w139 vq139 hB139 hH139
                  have hS139 := hS61.below hB139
                  refine W_move rfl rfl ?_
                  refine W_nil ?_
                  exact N_step rfl (congrArg Value.bool hb69) (Below.refl _ _)
                 ·
                  intro w140 vq140 hB140 hH140
                  have hS140 := hS61.below hB140
                  refine W_guard_yes rfl ?_
                  refine W_move rfl rfl ?_
                  refine W_nil ?_
                  exact N_step rfl rfl (Below.refl _ _)
                 ·
                  intro w141 vq141 hB141 hH141
                  have hS141 := hS61.below hB141
                  refine W_guard_yes rfl ?_
                  refine W_field_pl 1 rfl Ty.field42_1 rfl ?_
                  refine W_nil ?_
                  exact N_step rfl rfl (Below.refl _ _)
                 ·
                  intro w142 vq142 hB142 hH142
                  have hS142 := hS61.below hB142
                  refine W_guard_yes rfl ?_
                  refine W_bld1 0 rfl Ty.cell3 rfl hS142 rfl rfl ?_
                  refine W_nil ?_
                  exact N_step rfl rfl (Below.refl _ _)
                 ·
                  intro w143 vq143 hB143 hH143
                  have hS143 := hS61.below hB143
                  refine W_guard_yes rfl ?_
                  refine W_ix rfl Go.Proofs.Try.underlying22 Ty.cells3 Ty.info3 rfl rfl (he135.below hB143) hp135 rfl ?_
                  refine W_nil ?_
                  exact N_step rfl rfl (Below.refl _ _)
                 ·
                  intro w144 vq144 hB144 hH144
                  have hS144 := hS61.below hB144
                  refine W_guard_yes rfl ?_
                  refine W_ld1 0 rfl Ty.cell3 rfl (he135.below hB144) (by omega) rfl ?_
                  refine W_nil ?_
                  exact N_step rfl rfl (Below.refl _ _)
                 ·
                  intro w145 vq145 hB145 hH145
                  have hS145 := hS61.below hB145
                  refine W_guard_yes rfl ?_
                  refine W_field_pl 2 rfl Ty.field42_2 rfl ?_
                  refine W_nil ?_
                  exact N_step rfl rfl (Below.refl _ _)
                 ·
                  intro w146 vq146 hB146 hH146
                  have hS146 := hS61.below hB146
                  refine W_guard_yes rfl ?_
                  refine W_bld1 0 rfl Ty.cell3 rfl hS146 rfl rfl ?_
                  refine W_nil ?_
                  exact N_step rfl rfl (Below.refl _ _)
                 ·
                  intro w147 vq147 hB147 hH147
                  have hS147 := hS61.below hB147
                  refine W_guard_yes rfl ?_
                  refine W_neq rfl rfl rfl ?_
                  refine W_nil ?_
                  exact N_step rfl rfl (Below.refl _ _)
                 ·
                  intro w148 vq148 hB148 hH148
                  have hS148 := hS61.below hB148
                  refine W_pick_f rfl rfl rfl ?_
                  refine W_nil ?_
                  exact N_step rfl rfl (Below.refl _ _)
                 ·
                  intro w149 vq149 hB149 hH149
                  have hS149 := hS61.below hB149
                  refine W_move rfl rfl ?_
                  refine W_nil ?_
                  exact N_step rfl (congrArg Value.bool hb100) (Below.refl _ _)
                 ·
                  intro w150 vq150 hB150 hH150
                  have hS150 := hS61.below hB150
                  refine W_guard_yes rfl ?_
                  refine W_move rfl rfl ?_
                  refine W_nil ?_
                  exact N_step rfl rfl (Below.refl _ _)
                 ·
                  intro w151 vq151 hB151 hH151
                  have hS151 := hS61.below hB151
                  refine W_guard_yes rfl ?_
                  refine W_move rfl rfl ?_
                  refine W_nil ?_
                  exact N_step rfl rfl (Below.refl _ _)
                 ·
                  intro w152 vq152 hB152 hH152
                  have hS152 := hS61.below hB152
                  refine W_guard_yes rfl ?_
                  refine W_lenv rfl Go.Proofs.Try.underlying23 rfl h1.ln ?_
                  refine W_nil ?_
                  exact N_step rfl rfl (Below.refl _ _)
                 ·
                  intro w153 vq153 hB153 hH153
                  have hS153 := hS61.below hB153
                  refine W_guard_yes rfl ?_
                  refine W_eql rfl rfl rfl ?_
                  refine W_nil ?_
                  exact N_step rfl rfl (Below.refl _ _)
                 ·
                  intro w154 vq154 hB154 hH154
                  have hS154 := hS61.below hB154
                  refine W_pick_f rfl rfl rfl ?_
                  refine W_nil ?_
                  exact N_step rfl rfl (Below.refl _ _)
                 ·
                  intro w155 vq155 hB155 hH155
                  have hS155 := hS61.below hB155
                  refine W_move rfl rfl ?_
                  refine W_nil ?_
                  exact N_step rfl (congrArg Value.bool hb133) (Below.refl _ _)
                 ·
                  intro w156 vq156 hB156 hH156
                  have hS156 := hS61.below hB156
                  refine W_guard_no rfl rfl rfl rfl rfl ?_
                  refine W_nil ?_
                  exact N_step rfl rfl (Below.refl _ _)
                 ·
                  intro w157 vq157 hB157 hH157
                  have hS157 := hS61.below hB157
                  refine W_guard_no rfl rfl rfl rfl rfl ?_
                  refine W_nil ?_
                  exact N_step rfl rfl (Below.refl _ _)
                 ·
                  intro w158 vq158 hB158 hH158
                  have hS158 := hS61.below hB158
                  refine W_guard_no rfl rfl rfl rfl rfl ?_
                  refine W_nil ?_
                  exact N_step rfl rfl (Below.refl _ _)
                 ·
                  intro w159 vq159 hB159 hH159
                  have hS159 := hS61.below hB159
                  refine W_guard_no rfl rfl rfl rfl rfl ?_
                  refine W_nil ?_
                  exact N_step rfl rfl (Below.refl _ _)
                 ·
                  intro w160 vq160 hB160 hH160
                  have hS160 := hS61.below hB160
                  refine W_guard_no rfl rfl rfl rfl rfl ?_
                  refine W_nil ?_
                  exact N_step rfl rfl (Below.refl _ _)
                 ·
                  intro w161 vq161 hB161 hH161
                  have hS161 := hS61.below hB161
                  refine W_guard_no rfl rfl rfl rfl rfl ?_
                  refine W_nil ?_
                  exact N_step rfl rfl (Below.refl _ _)
                 ·
                  intro w162 vq162 hB162 hH162
                  have hS162 := hS61.below hB162
                  refine W_guard_no rfl rfl rfl rfl rfl ?_
                  refine W_nil ?_
                  exact N_step rfl rfl (Below.refl _ _)
                 ·
                  intro w163 vq163 hB163 hH163
                  have hS163 := hS61.below hB163
                  refine W_guard_no rfl rfl rfl rfl rfl ?_
                  refine W_nil ?_
                  exact N_step rfl rfl (Below.refl _ _)
                 ·
                  intro w164 vq164 hB164 hH164
                  have hS164 := hS61.below hB164
                  refine W_guard_no rfl rfl rfl rfl rfl ?_
                  refine W_nil ?_
                  exact N_step rfl rfl (Below.refl _ _)
                intro w165 vq165 hB165 hH165
                have hS165 := hS61.below hB165
                refine W_pick_t rfl rfl rfl ?_
                refine W_nil ?_
                exact N_join _ ⟨rfl, F61, (Frz.le.refl _), hS165⟩ ⟨rfl, rfl, rfl, rfl, rfl, rfl, rfl, rfl, (look_bool rfl (by first | rfl | (rw [hb133, hb100, hb69]; first | done | rfl) | simp [hb69, hb100, hb133])), trivial⟩
               ·
                have hy166 := hx63
                rw [only_t (by first | rfl | (rw [hb69]; first | done | rfl) | simp [hb69, hb100, hb133])] at hy166
                obtain ⟨hp167, hy167⟩ := ix_some hy166
                obtain ⟨cs167, hr167, he167⟩ := hS61.rowAt (k := 2) rfl hy167
                obtain rfl := hr167
                replace he167 : El _ _ 1 _ _ := he167
                have hy168 := hx65
                rw [only_t (by first | rfl | (rw [hb133, hb100, hb69]; first | done | rfl) | simp [hb69, hb100, hb133])] at hy168
                obtain ⟨hp169, hy169⟩ := ix_some hy168
                obtain ⟨cs169, hr169, he169⟩ := (h1.mono (((((((((le1.trans le5).trans le6).trans ler7).trans le12).trans ler24).trans le35).trans le57).trans le60).trans le61)).at_ hy169
                obtain rfl := hr169
                replace he169 : Elf _ _ 5 _ _ := he169
                apply C_draw 29 [[], [0], [1], [2], [3], [3], [5, 3], [4, 6, 3], [7, 3], [3], [9, 3], [8, 10, 3], [3, 11], [12], [13], [13], [15, 13], [14, 16, 13], [13, 17], [18], [19], [19], [20, 21, 19], [22, 19], [23, 19], [19], [25, 19], [24, 26, 19], [27, 19]] [.val (pl g54 (0 + 0)), .val (.int .i64 x52.kind), .val (.bool (decide (x52.kind ≠ 2))), .val (.bool false), .val (ur24_0), .val (pl g54 (0 + 1)), .val (.int .i64 x52.drive), .val (elp ur24_0 (x52.drive.toNat * 1)), .val (.int .i64 x63), .val (pl g54 (0 + 2)), .val (.int .i64 x52.vol), .val (.bool (decide (x63 ≠ x52.vol))), .val (.bool (decide (x63 ≠ x52.vol))), .val (.bool false), .val (.int .i64 i62), .val (v1), .val (.int .i64 (x1.length : Int)), .val (.bool (decide (i62 = (x1.length : Int)))), .val (.bool (decide (i62 = (x1.length : Int)))), .val (.bool false), .val (v1), .val (.int .i64 i62), .val (elp v1 (i62.toNat * 5)), .val (elp v1 ((i62.toNat * 5) + 1)), .val (.agg (Loc.cells x65.loc).toArray), .val (pl g54 (0 + 3)), .val (.agg (Loc.cells x52.loc).toArray), .val (.bool r67), .val (.bool (!r67))] Ty.mixed rfl rfl (by kernel_rfl) (by kernel_rfl) rfl
                ·
                 refine ⟨?_, ?_, ?_, ?_, ?_, ?_, ?_, ?_, ?_, ?_, ?_, ?_, ?_, ?_, ?_, ?_, ?_, ?_, ?_, ?_, ?_, ?_, ?_, ?_, ?_, ?_, ?_, ?_, ?_, trivial⟩
                 ·
                  intro w170 vq170 hB170 hH170
                  have hS170 := hS61.below hB170
                  refine W_field_pl 0 rfl Ty.field42_0 rfl ?_
                  refine W_nil ?_
                  exact N_step rfl rfl (Below.refl _ _)
                 ·
                  intro w171 vq171 hB171 hH171
                  have hS171 := hS61.below hB171
                  refine W_bld1 0 rfl Ty.cell3 rfl hS171 rfl rfl ?_
                  refine W_nil ?_
                  exact N_step rfl rfl (Below.refl _ _)
                 ·
                  intro w172 vq172 hB172 hH172
                  have hS172 := hS61.below hB172
                  refine W_neq rfl rfl rfl ?_
                  refine W_nil ?_
                  exact N_step rfl rfl (Below.refl _ _)
                 ·
                  intro w173 vq173 hB173 hH173
                  have hS173 := hS61.below hB173
                  refine W_move rfl rfl ?_
                  refine W_nil ?_
                  exact N_step rfl (congrArg Value.bool hb69) (Below.refl _ _)
                 ·
                  intro w174 vq174 hB174 hH174
                  have hS174 := hS61.below hB174
                  refine W_guard_yes rfl ?_
                  refine W_move rfl rfl ?_
                  refine W_nil ?_
                  exact N_step rfl rfl (Below.refl _ _)
                 ·
                  intro w175 vq175 hB175 hH175
                  have hS175 := hS61.below hB175
                  refine W_guard_yes rfl ?_
                  refine W_field_pl 1 rfl Ty.field42_1 rfl ?_
                  refine W_nil ?_
                  exact N_step rfl rfl (Below.refl _ _)
                 ·
                  intro w176 vq176 hB176 hH176
                  have hS176 := hS61.below hB176
                  refine W_guard_yes rfl ?_
                  refine W_bld1 0 rfl Ty.cell3 rfl hS176 rfl rfl ?_
                  refine W_nil ?_
                  exact N_step rfl rfl (Below.refl _ _)
                 ·
                  intro w177 vq177 hB177 hH177
                  have hS177 := hS61.below hB177
                  refine W_guard_yes rfl ?_
                  refine W_ix rfl Go.Proofs.Try.underlying22 Ty.cells3 Ty.info3 rfl rfl (he167.below hB177) hp167 rfl ?_
                  refine W_nil ?_
                  exact N_step rfl rfl (Below.refl _ _)
                 ·
                  intro w178 vq178 hB178 hH178
                  have hS178 := hS61.below hB178
                  refine W_guard_yes rfl ?_
                  refine W_ld1 0 rfl Ty.cell3 rfl (he167.below hB178) (by omega) rfl ?_
                  refine W_nil ?_
                  exact N_step rfl rfl (Below.refl _ _)
                 ·
                  intro w179 vq179 hB179 hH179
                  have hS179 := hS61.below hB179
                  refine W_guard_yes rfl ?_
                  refine W_field_pl 2 rfl Ty.field42_2 rfl ?_
                  refine W_nil ?_
                  exact N_step rfl rfl (Below.refl _ _)
                 ·
                  intro w180 vq180 hB180 hH180
                  have hS180 := hS61.below hB180
                  refine W_guard_yes rfl ?_
                  refine W_bld1 0 rfl Ty.cell3 rfl hS180 rfl rfl ?_
                  refine W_nil ?_
                  exact N_step rfl rfl (Below.refl _ _)
                 ·
                  intro w181 vq181 hB181 hH181
                  have hS181 := hS61.below hB181
                  refine W_guard_yes rfl ?_
                  refine W_neq rfl rfl rfl ?_
                  refine W_nil ?_
                  exact N_step rfl rfl (Below.refl _ _)
                 ·
                  intro w182 vq182 hB182 hH182
                  have hS182 := hS61.below hB182
                  refine W_pick_f rfl rfl rfl ?_
                  refine W_nil ?_
                  exact N_step rfl rfl (Below.refl _ _)
                 ·
                  intro w183 vq183 hB183 hH183
                  have hS183 := hS61.below hB183
                  refine W_move rfl rfl ?_
                  refine W_nil ?_
                  exact N_step rfl (congrArg Value.bool hb100) (Below.refl _ _)
                 ·
                  intro w184 vq184 hB184 hH184
                  have hS184 := hS61.below hB184
                  refine W_guard_yes rfl ?_
                  refine W_move rfl rfl ?_
                  refine W_nil ?_
                  exact N_step rfl rfl (Below.refl _ _)
                 ·
                  intro w185 vq185 hB185 hH185
                  have hS185 := hS61.below hB185
                  refine W_guard_yes rfl ?_
                  refine W_move rfl rfl ?_
                  refine W_nil ?_
                  exact N_step rfl rfl (Below.refl _ _)
                 ·
                  intro w186 vq186 hB186 hH186
                  have hS186 := hS61.below hB186
                  refine W_guard_yes rfl ?_
                  refine W_lenv rfl Go.Proofs.Try.underlying23 rfl h1.ln ?_
                  refine W_nil ?_
                  exact N_step rfl rfl (Below.refl _ _)
                 ·
                  intro w187 vq187 hB187 hH187
                  have hS187 := hS61.below hB187
                  refine W_guard_yes rfl ?_
                  refine W_eql rfl rfl rfl ?_
                  refine W_nil ?_
                  exact N_step rfl rfl (Below.refl _ _)
                 ·
                  intro w188 vq188 hB188 hH188
                  have hS188 := hS61.below hB188
                  refine W_pick_f rfl rfl rfl ?_
                  refine W_nil ?_
                  exact N_step rfl rfl (Below.refl _ _)
                 ·
                  intro w189 vq189 hB189 hH189
                  have hS189 := hS61.below hB189
                  refine W_move rfl rfl ?_
                  refine W_nil ?_
                  exact N_step rfl (congrArg Value.bool hb133) (Below.refl _ _)
                 ·
                  intro w190 vq190 hB190 hH190
                  have hS190 := hS61.below hB190
                  refine W_guard_yes rfl ?_
                  refine W_move rfl rfl ?_
                  refine W_nil ?_
                  exact N_step rfl rfl (Below.refl _ _)
                 ·
                  intro w191 vq191 hB191 hH191
                  have hS191 := hS61.below hB191
                  refine W_guard_yes rfl ?_
                  refine W_move rfl rfl ?_
                  refine W_nil ?_
                  exact N_step rfl rfl (Below.refl _ _)
                 ·
                  intro w192 vq192 hB192 hH192
                  have hS192 := hS61.below hB192
                  refine W_guard_yes rfl ?_
                  refine W_ix rfl Go.Proofs.Try.underlying23 Ty.cells39 Ty.info39 rfl rfl (he169.el hS192.agree) hp169 rfl ?_
                  refine W_nil ?_
                  exact N_step rfl rfl (Below.refl _ _)
                 ·
                  intro w193 vq193 hB193 hH193
                  have hS193 := hS61.below hB193
                  refine W_guard_yes rfl ?_
                  refine W_fld 1 rfl Ty.field39_1 rfl (he169.el hS193.agree) ?_
                  refine W_nil ?_
                  exact N_step rfl rfl (Below.refl _ _)
                 ·
                  intro w194 vq194 hB194 hH194
                  have hS194 := hS61.below hB194
                  refine W_guard_yes rfl ?_
                  refine W_ldg 1 ((Loc.cells x65.loc)) rfl Ty.agg37 Ty.size37 rfl (he169.el hS194.agree) (by omega) (fun q u h => sub_at (post := []) rfl h) ?_
                  refine W_nil ?_
                  exact N_step rfl rfl (Below.refl _ _)
                 ·
                  intro w195 vq195 hB195 hH195
                  have hS195 := hS61.below hB195
                  refine W_guard_yes rfl ?_
                  refine W_field_pl 3 rfl Ty.field42_3 rfl ?_
                  refine W_nil ?_
                  exact N_step rfl rfl (Below.refl _ _)
                 ·
                  intro w196 vq196 hB196 hH196
                  have hS196 := hS61.below hB196
                  refine W_guard_yes rfl ?_
                  refine W_bldg 0 ((Loc.cells x52.loc)) rfl Ty.agg37 Ty.size37 rfl hS196 rfl (fun q u h => sub_at (post := []) rfl h) ?_
                  refine W_nil ?_
                  exact N_step rfl rfl (Below.refl _ _)
                 ·
                  intro w197 vq197 hB197 hH197
                  have hS197 := hS61.below hB197
                  refine W_guard_yes rfl ?_
                  have hy198 := hr67
                  rw [only_t (by first | rfl | (rw [hb133, hb100, hb69]; first | done | rfl) | simp [hb69, hb100, hb133])] at hy198
                  refine W_call rfl Ty.named24 rfl (cellarerkeep_Loc_ok hS197.agree hy198) ?_
                  rintro v199 w199 ⟨Fr67, rfl, hT199⟩
                  have hS199 := hS197.lent hT199
                  refine W_nil ?_
                  exact N_step rfl rfl hT199.below0
                 ·
                  intro w200 vq200 hB200 hH200
                  have hS200 := hS61.below hB200
                  refine W_guard_yes rfl ?_
                  refine W_not rfl rfl ?_
                  refine W_nil ?_
                  exact N_step rfl rfl (Below.refl _ _)
                intro w201 vq201 hB201 hH201
                have hS201 := hS61.below hB201
                refine W_pick_f rfl rfl rfl ?_
                refine W_nil ?_
                exact N_join _ ⟨rfl, F61, (Frz.le.refl _), hS201⟩ ⟨rfl, rfl, rfl, rfl, rfl, rfl, rfl, rfl, (look_bool rfl (by first | rfl | (rw [hb133, hb100, hb69]; first | done | rfl) | simp [hb69, hb100, hb133])), trivial⟩
            rintro E w68 ⟨rfl, F68, le68, hS68⟩
            refine N_code ?_
            refine C_cond rfl (fun hc202 => ?_) (fun hc202 => ?_)
            ·
             rw [if_t hc202] at H
             refine C_seq ?_
             refine C_region ?_
             refine W_assign rfl rfl ?_
             refine W_nil ?_
             refine N_code ?_
             obtain rfl := Option.some.inj H
             refine C_ret rfl rfl ?_
             exact ⟨F68, rfl, hS68.pick [] (by decide)⟩
            ·
             rw [if_f hc202] at H
             refine C_skip ?_
             refine N_code ?_
             refine C_seq ?_
             obtain ⟨x203, hx203, H⟩ := bd_some H
             refine C_region ?_
             refine W_move rfl rfl ?_
             refine W_move rfl rfl ?_
             obtain ⟨hp205, hy205⟩ := ix_some hx203
             obtain ⟨cs205, hr205, he205⟩ := hS68.rowAt (k := 1) rfl hy205
             obtain rfl := hr205
             replace he205 : El _ _ 1 _ _ := he205
             refine W_ix rfl Go.Proofs.Try.underlying40 Ty.cells4 Ty.info4 rfl rfl he205 hp205 rfl ?_
             refine W_put (c := [.bool true]) 1 (i62.toNat) 0 x203 true rfl rfl hS68 rfl (ix_some hx203).2 (by first | rfl | (show _ = _ * 1 + _; omega)) rfl Ty.size4 (by intro y hy; simp at hy; subst hy; rfl) (by first | decide | exact Nat.le_of_ble_eq_true rfl) (by rintro cs rfl; rfl) ?_
             intro w206 hS206
             refine W_nil ?_
             refine N_code ?_
             refine C_region ?_
             refine W_move rfl rfl ?_
             refine W_add rfl rfl rfl rfl ?_
             refine W_assign rfl rfl ?_
             refine W_nil ?_
             refine N_block ?_
             exact N_join _ ⟨l36, wr (i39 + 1), (l41.set i62.toNat true), l42, H, ⟨F68, u37, rfl, (((le57.trans le60).trans le61).trans le68), hS206.pick [1, 2, 3, 4] (by decide)⟩⟩ ⟨rfl, rfl, rfl, rfl, rfl, rfl, rfl, trivial⟩
        ·
         rintro E w45 ⟨l46, i49, l50, l51, H, F45, u47, rfl, le45, hS45⟩
         dsimp only [cellarerlaw22_MountsDone.k5] at H
         refine C_region ?_
         refine W_move rfl rfl ?_
         refine W_add rfl rfl rfl rfl ?_
         refine W_assign rfl rfl ?_
         refine W_nil ?_
         exact N_againM (l46, i49, wr (i40 + 1), l50, l51) _ H ⟨F45, u47, rfl, (le35.trans le45), hS45⟩ ⟨rfl, rfl, rfl, rfl, rfl, rfl, rfl, trivial⟩
       ·
        rw [if_f hc44] at H
        refine C_exit _ rfl ?_
        exact N_join _ ⟨i39, H, ⟨F35, rfl, le35, hS35.pick [] (by decide)⟩⟩ ⟨rfl, rfl, trivial⟩
     ·
      rintro E w28 ⟨i29, H, F28, rfl, le28, hS28⟩
      dsimp only [cellarerlaw22_MountsDone.k3] at H
      refine C_seq ?_
      obtain ⟨r30, hr30, H⟩ := bd_some H
      refine C_join (fun E wq => E = [(4, .bool (decide (i29 = (x1.length : Int)) && r30))] ∧ ∃ F31 : Frz, F28.le F31 ∧ St [] w F F31 [] wq) ?_ ?_
      ·
       rcases Bool.eq_false_or_eq_true (decide (i29 = (x1.length : Int))) with hb32 | hb32
       ·
        refine C_region ?_
        refine W_move rfl rfl ?_
        refine W_move rfl rfl ?_
        refine W_lenv rfl Go.Proofs.Try.underlying23 rfl h1.ln ?_
        refine W_eql rfl rfl rfl ?_
        refine W_move rfl rfl ?_
        refine W_known (t := 211) true rfl hb32 ?_
        refine W_guard_yes rfl ?_
        have hy33 := hr30
        rw [only_t hb32] at hy33
        refine W_call rfl Ty.named23 rfl (cellarerlaw22_wakes_ok hS28.agree hy33) ?_
        rintro v34 w34 ⟨Fr30, rfl, hT34⟩
        have hS34 := hS28.lent hT34
        refine W_pick_t rfl rfl rfl ?_
        refine W_assign rfl rfl ?_
        refine W_nil ?_
        exact N_join _ ⟨rfl, F28, (Frz.le.refl _), hS34⟩ ⟨(look_bool rfl (by first | rfl | (rw [hb32]; first | done | rfl) | simp [hb32])), trivial⟩
       ·
        refine C_region ?_
        refine W_move rfl rfl ?_
        refine W_move rfl rfl ?_
        refine W_lenv rfl Go.Proofs.Try.underlying23 rfl h1.ln ?_
        refine W_eql rfl rfl rfl ?_
        refine W_move rfl rfl ?_
        refine W_known (t := 211) false rfl hb32 ?_
        refine W_guard_no rfl rfl rfl rfl rfl ?_
        refine W_pick_f rfl rfl rfl ?_
        refine W_assign rfl rfl ?_
        refine W_nil ?_
        exact N_join _ ⟨rfl, F28, (Frz.le.refl _), hS28⟩ ⟨(look_bool rfl (by first | rfl | (rw [hb32]; first | done | rfl) | simp [hb32])), trivial⟩
      rintro E w31 ⟨rfl, F31, le31, hS31⟩
      refine N_code ?_
      obtain rfl := Option.some.inj H
      refine C_ret rfl rfl ?_
      exact ⟨F31, rfl, hS31⟩

end Go.Wk.Lf
