import Derived.Test.YtahfmkjafddjhaaLfB
namespace Go.Wk.Lf
open Go.Proofs Go.RowKit
set_option linter.unusedVariables false
set_option linter.unusedSimpArgs false

def cellarerlaw21_PlanRises.k4 (r4 : (List Read) × (List Int)) (i16 : Int) : Option Bool :=
  bd (only (decide (i16 = (r4.1.length : Int))) (cellarerlaw21_wakes) false) fun r17 =>
  some (decide (i16 = (r4.1.length : Int)) && r17)


def cellarerlaw21_PlanRises.k6 (i24 : Int) (rec25 : (Int × Int) → Option Bool) (i28 : Int) : Option Bool :=
  rec25 (i28, wr (i24 + 1))


def cellarerlaw21_PlanRises.k7 (i23 : Int) (i24 : Int) (rec25 : (Int × Int) → Option Bool) (i30 : Int) : Option Bool :=
  if decide (i30 = i23) then
    some false
  else
    cellarerlaw21_PlanRises.k6 i24 rec25 i30


def cellarerlaw21_PlanRises.l8 (r4 : (List Read) × (List Int)) (r13 : (List Int)) (i23 : Int) (i24 : Int) (rec25 : (Int × Int) → Option Bool) (rec34 : Int → Option Bool) : Int → Option Bool
  | i33 =>
    bd (only (decide (i33 < (r4.1.length : Int))) (ix r4.1 i33) (Read.mk 0 (Loc.mk 0 0 0 0))) fun x35 =>
    bd (only (decide (i33 < (r4.1.length : Int))) (ix r13 i24) 0) fun x37 =>
    if (decide (i33 < (r4.1.length : Int)) && decide (x35.loc.vol = x37)) then
      rec34 (wr (i33 + 1))
    else
      cellarerlaw21_PlanRises.k7 i23 i24 rec25 i33


def cellarerlaw21_PlanRises.l5 (r4 : (List Read) × (List Int)) (r13 : (List Int)) (rec25 : (Int × Int) → Option Bool) : (Int × Int) → Option Bool
  | (i23, i24) =>
    if decide (i24 < (r13.length : Int)) then
      loop (cellarerlaw21_PlanRises.l8 r4 r13 i23 i24 rec25) i23
    else
      cellarerlaw21_PlanRises.k4 r4 i23


def cellarerlaw21_PlanRises.k3 (r4 : (List Read) × (List Int)) : Option Bool :=
  bd (plan_Vols r4.1) fun r13 =>
  loop (cellarerlaw21_PlanRises.l5 r4 r13) (0, 0)


def cellarerlaw21_PlanRises.l9 (r4 : (List Read) × (List Int)) (l11 : List Int) (rec82 : Int → Option Bool) : Int → Option Bool
  | i81 =>
    if decide (i81 < (l11.length : Int)) then
      bd (ix l11 i81) fun x84 =>
      if decide (x84 ≠ 1) then
        some false
      else
        rec82 (wr (i81 + 1))
    else
      cellarerlaw21_PlanRises.k3 r4


def cellarerlaw21_PlanRises.k2 (r4 : (List Read) × (List Int)) (l11 : List Int) : Option Bool :=
  loop (cellarerlaw21_PlanRises.l9 r4 l11) 0


def cellarerlaw21_PlanRises.l10 (x0 : List Want) (r4 : (List Read) × (List Int)) (rec91 : (Int × (List Int)) → Option Bool) : (Int × (List Int)) → Option Bool
  | (i89, l90) =>
    if decide (i89 < (r4.2.length : Int)) then
      bd (ix r4.2 i89) fun x93 =>
      bd (only (!decide (x93 < 0)) (ix r4.2 i89) 0) fun x95 =>
      bd (only (!(decide (x93 < 0) || decide ((x0.length : Int) ≤ x95))) (ix r4.2 i89) 0) fun x97 =>
      bd (only (!(decide (x93 < 0) || decide ((x0.length : Int) ≤ x95))) (ix x0 x97) (Want.mk (List.replicate 32 0) [])) fun x99 =>
      bd (only ((!((decide (x93 < 0) || decide ((x0.length : Int) ≤ x95)) || decide (0 < (x99.locs.length : Int)))) && decide (0 < i89)) (ix r4.2 i89) 0) fun x101 =>
      bd (only ((!((decide (x93 < 0) || decide ((x0.length : Int) ≤ x95)) || decide (0 < (x99.locs.length : Int)))) && decide (0 < i89)) (ix r4.2 (wr (i89 - 1))) 0) fun x103 =>
      if (((decide (x93 < 0) || decide ((x0.length : Int) ≤ x95)) || decide (0 < (x99.locs.length : Int))) || (decide (0 < i89) && decide (x101 ≤ x103))) then
        some false
      else
        bd (ix r4.2 i89) fun x350 =>
        bd (ix l90 x350) fun x352 =>
        rec91 (wr (i89 + 1), (l90.set x350.toNat (wr (x352 + 1))))
    else
      cellarerlaw21_PlanRises.k2 r4 l90


def cellarerlaw21_PlanRises.k1 (x0 : List Want) (r4 : (List Read) × (List Int)) (l9 : List Int) : Option Bool :=
  loop (cellarerlaw21_PlanRises.l10 x0 r4) (0, l9)


def cellarerlaw21_PlanRises.k12 (i359 : Int) (rec361 : (Int × (List Int)) → Option Bool) (l364 : List Int) : Option Bool :=
  rec361 (wr (i359 + 1), l364)


def cellarerlaw21_PlanRises.k13 (i359 : Int) (l360 : List Int) (rec361 : (Int × (List Int)) → Option Bool) (x365 : Read) (x488 : Int) (b494 : Bool) : Option Bool :=
  if (!b494) then
    some false
  else
    cellarerlaw21_PlanRises.k12 i359 rec361 (l360.set x365.want.toNat (wr (x488 + 1)))


def cellarerlaw21_PlanRises.l14 (x0 : List Want) (r4 : (List Read) × (List Int)) (i359 : Int) (l360 : List Int) (rec361 : (Int × (List Int)) → Option Bool) (x365 : Read) (x488 : Int) (rec499 : (Bool × Int) → Option Bool) : (Bool × Int) → Option Bool
  | (b497, i498) =>
    bd (ix x0 x365.want) fun x500 =>
    if decide (i498 < (x500.locs.length : Int)) then
      bd (only (!b497) (ix x0 x365.want) (Want.mk (List.replicate 32 0) [])) fun x504 =>
      bd (only (!b497) (ix x504.locs i498) (Loc.mk 0 0 0 0)) fun x506 =>
      bd (only (!b497) (ix r4.1 i359) (Read.mk 0 (Loc.mk 0 0 0 0))) fun x508 =>
      bd (only (!b497) (cellarerkeep_Loc x506 x508.loc) false) fun r510 =>
      bd (ix x0 x365.want) fun x555 =>
      bd (ix x555.locs i498) fun x557 =>
      bd (ix r4.1 i359) fun x559 =>
      bd (plan_Ahead x557 x559.loc) fun r561 =>
      if r561 then
        some false
      else
        rec499 ((b497 || r510), wr (i498 + 1))
    else
      cellarerlaw21_PlanRises.k13 i359 l360 rec361 x365 x488 b497


def cellarerlaw21_PlanRises.l11 (x0 : List Want) (r4 : (List Read) × (List Int)) (rec361 : (Int × (List Int)) → Option Bool) : (Int × (List Int)) → Option Bool
  | (i359, l360) =>
    if decide (i359 < (r4.1.length : Int)) then
      bd (ix r4.1 i359) fun x365 =>
      bd (only ((!(decide (x365.want < 0) || decide ((x0.length : Int) ≤ x365.want))) && decide (0 < i359)) (ix r4.1 i359) (Read.mk 0 (Loc.mk 0 0 0 0))) fun x368 =>
      bd (only ((!(decide (x365.want < 0) || decide ((x0.length : Int) ≤ x365.want))) && decide (0 < i359)) (ix r4.1 (wr (i359 - 1))) (Read.mk 0 (Loc.mk 0 0 0 0))) fun x370 =>
      bd (only ((!(decide (x365.want < 0) || decide ((x0.length : Int) ≤ x365.want))) && decide (0 < i359)) (plan_Ahead x368.loc x370.loc) false) fun r372 =>
      if ((decide (x365.want < 0) || decide ((x0.length : Int) ≤ x365.want)) || (decide (0 < i359) && r372)) then
        some false
      else
        bd (ix l360 x365.want) fun x488 =>
        loop (cellarerlaw21_PlanRises.l14 x0 r4 i359 l360 rec361 x365 x488) (false, 0)
    else
      cellarerlaw21_PlanRises.k1 x0 r4 l360

def cellarerlaw21_PlanRises (x0 : List Want) : Option Bool :=
  bd (cellarerlaw21_Heavy x0) fun r1 =>
  if r1 then
    some true
  else
    bd (plan_Order x0) fun r4 =>
    bd (rep (x0.length : Int) 0) fun l6 =>
    loop (cellarerlaw21_PlanRises.l11 x0 r4) (0, l6)

theorem cellarerlaw21_PlanRises_ok {F : Frz} {w : World} {x0 : List Want} {r : Bool} {v0 : Value} (hA : Agree F w.heap) (h0 : SlF Want.t F v0 x0) (H : cellarerlaw21_PlanRises x0 = some r) : Ret Try.prog 13 #[v0] w fun v w' => ∃ (F' : Frz), v = .bool r ∧ St [] w F F' [] w' := by
 refine Ret_of (args := [v0]) Go.Proofs.Try.func13 rfl rfl ?_
 change C _ _ _ _ [(0, v0)] _
 have hS := St.entry hA
 dsimp only [cellarerlaw21_PlanRises] at H
 refine C_seq ?_
 refine C_region ?_
 refine W_assign rfl rfl ?_
 refine W_nil ?_
 refine N_code ?_
 refine C_seq ?_
 refine C_seq ?_
 obtain ⟨r1, hr1, H⟩ := bd_some H
 refine C_region ?_
 refine W_move rfl rfl ?_
 refine W_call rfl Ty.named26 rfl (cellarerlaw21_Heavy_ok hS.agree h0 hr1) ?_
 rintro v2 w2 ⟨Fr1, rfl, hT2⟩
 have hS2 := hS.lent hT2
 refine W_nil ?_
 refine N_code ?_
 refine C_cond rfl (fun hc3 => ?_) (fun hc3 => ?_)
 ·
  rw [if_t hc3] at H
  refine C_seq ?_
  refine C_region ?_
  refine W_assign rfl rfl ?_
  refine W_nil ?_
  refine N_code ?_
  obtain rfl := Option.some.inj H
  refine C_ret rfl rfl ?_
  exact ⟨F, rfl, hS2⟩
 ·
  rw [if_f hc3] at H
  refine C_skip ?_
  refine N_code ?_
  refine C_seq ?_
  obtain ⟨r4, hr4, H⟩ := bd_some H
  refine C_region ?_
  refine W_move rfl rfl ?_
  refine W_call rfl Ty.named27 rfl (plan_Order_ok hS2.agree h0 hr4) ?_
  rintro v5 w5 ⟨Fr4, ur4_0, ur4_1, rfl, hT5⟩
  have hS5 := hS2.call hT5
  have ler4 := hT5.ext
  refine W_move rfl rfl ?_
  refine W_extract rfl rfl rfl ?_
  refine W_extract rfl rfl rfl ?_
  refine W_assign rfl rfl ?_
  refine W_assign rfl rfl ?_
  refine W_nil ?_
  refine N_code ?_
  refine C_seq ?_
  obtain ⟨l6, hl6, H⟩ := bd_some H
  refine C_region ?_
  refine W_move rfl rfl ?_
  refine W_lenv rfl Go.Proofs.Try.underlying47 rfl h0.ln ?_
  refine W_mk (t := tI) (x0 := 0) rfl Go.Proofs.Try.underlying22 Ty.row3 rfl rfl rfl rfl hS5 rfl hl6 ?_
  intro v7 w7 hS7
  refine W_assign rfl rfl ?_
  refine W_nil ?_
  refine N_code ?_
  refine C_seq_join (fun E wq => ∃ l9 : List Int, cellarerlaw21_PlanRises.k1 x0 r4 l9 = some r ∧ ∃ (F8 : Frz), E = [(0, v0), (3, ur4_0), (4, ur4_1), (5, v7)] ∧ Fr4.le F8 ∧ St [] w F F8 [.row tI 3 v7 l9, .row Read.t 39 ur4_0 r4.1, .row tI 3 ur4_1 r4.2] wq) ?_ ?_
  ·
   refine C_seq ?_
   refine C_region ?_
   refine W_assign rfl rfl ?_
   refine W_nil ?_
   refine N_code ?_
   refine C_block ?_
   refine C_loopM (fun (s : Int × (List Int)) E wq => ∃ (F358 : Frz), E = [(0, v0), (3, ur4_0), (4, ur4_1), (5, v7), (6, .int .i64 s.1)] ∧ Fr4.le F358 ∧ St [] w F F358 [.row tI 3 v7 s.2, .row Read.t 39 ur4_0 r4.1, .row tI 3 ur4_1 r4.2] wq) H ?_ ?_
   ·
    exact ⟨_, ⟨Fr4, rfl, (Frz.le.refl _), hS7⟩, ⟨rfl, rfl, rfl, rfl, rfl, trivial⟩⟩
   ·
    rintro rec361 ⟨i359, l360⟩ E w358 hI H
    try dsimp only at hI
    obtain ⟨F358, rfl, le358, hS358⟩ := hI
    dsimp only [cellarerlaw21_PlanRises.l11] at H
    refine C_seq ?_
    refine C_seq ?_
    refine C_region ?_
    refine W_move rfl rfl ?_
    refine W_move rfl rfl ?_
    refine W_lenv rfl Go.Proofs.Try.underlying23 rfl (hS358.rowLn (k := 1) rfl) ?_
    refine W_lss rfl rfl rfl ?_
    refine W_nil ?_
    refine N_code ?_
    refine C_cond rfl (fun hc362 => ?_) (fun hc362 => ?_)
    ·
     rw [if_t hc362] at H
     refine C_skip ?_
     refine N_code ?_
     refine C_seq_join (fun E wq => ∃ l364 : List Int, cellarerlaw21_PlanRises.k12 i359 rec361 l364 = some r ∧ ∃ (F363 : Frz), E = [(0, v0), (3, ur4_0), (4, ur4_1), (5, v7), (6, .int .i64 i359)] ∧ F358.le F363 ∧ St [] w F F363 [.row tI 3 v7 l364, .row Read.t 39 ur4_0 r4.1, .row tI 3 ur4_1 r4.2] wq) ?_ ?_
     ·
      refine C_block ?_
      refine C_seq ?_
      obtain ⟨x365, hx365, H⟩ := bd_some H
      refine C_region ?_
      refine W_move rfl rfl ?_
      refine W_move rfl rfl ?_
      obtain ⟨hp367, hy367⟩ := ix_some hx365
      obtain ⟨cs367, hr367, he367⟩ := hS358.rowAt (k := 1) rfl hy367
      obtain rfl := hr367
      replace he367 : El _ _ 5 _ _ := he367
      refine W_ix rfl Go.Proofs.Try.underlying23 Ty.cells39 Ty.info39 rfl rfl he367 hp367 rfl ?_
      refine W_fld 0 rfl Ty.field39_0 rfl he367 ?_
      refine W_ld1 0 rfl Ty.cell3 rfl he367 (by omega) rfl ?_
      refine W_assign rfl rfl ?_
      refine W_nil ?_
      refine N_code ?_
      refine C_seq ?_
      refine C_seq ?_
      obtain ⟨x368, hx368, H⟩ := bd_some H
      obtain ⟨x370, hx370, H⟩ := bd_some H
      obtain ⟨r372, hr372, H⟩ := bd_some H
      refine C_join (fun E wq => E = [(0, v0), (3, ur4_0), (4, ur4_1), (5, v7), (6, .int .i64 i359), (7, .int .i64 x365.want), (62, .bool ((decide (x365.want < 0) || decide ((x0.length : Int) ≤ x365.want)) || (decide (0 < i359) && r372)))] ∧ ∃ F373 : Frz, F358.le F373 ∧ St [] w F F373 [.row tI 3 v7 l360, .row Read.t 39 ur4_0 r4.1, .row tI 3 ur4_1 r4.2] wq) ?_ ?_
      ·
       rcases Bool.eq_false_or_eq_true (decide (x365.want < 0)) with hb374 | hb374
       ·
        apply C_draw 25 [[], [0], [1], [2], [2], [4, 2], [3, 5, 2], [2, 6], [7], [8], [9, 8], [10, 8], [11], [11], [12, 13, 11], [14, 11], [15, 11], [11], [11], [18, 11], [17, 19, 11], [20, 11], [21, 11], [16, 22, 11], [11, 23, 8]] [.val (.int .i64 x365.want), .val (.bool (decide (x365.want < 0))), .val (.bool true), .val undef, .val undef, .val undef, .val undef, .val (.bool true), .val (.bool true), .val undef, .val undef, .val undef, .val undef, .val undef, .val undef, .val undef, .val undef, .val undef, .val undef, .val undef, .val undef, .val undef, .val undef, .val undef, .val undef] Ty.mixed rfl rfl (by kernel_rfl) (by kernel_rfl) rfl
        ·
         refine ⟨?_, ?_, ?_, ?_, ?_, ?_, ?_, ?_, ?_, ?_, ?_, ?_, ?_, ?_, ?_, ?_, ?_, ?_, ?_, ?_, ?_, ?_, ?_, ?_, ?_, trivial⟩
         ·
          intro w375 vq375 hB375 hH375
          have hS375 := hS358.below hB375
          refine W_move rfl rfl ?_
          refine W_nil ?_
          exact N_step rfl rfl (Below.refl _ _)
         ·
          intro w376 vq376 hB376 hH376
          have hS376 := hS358.below hB376
          refine W_lss rfl rfl rfl ?_
          refine W_nil ?_
          exact N_step rfl rfl (Below.refl _ _)
         ·
          intro w377 vq377 hB377 hH377
          have hS377 := hS358.below hB377
          refine W_move rfl rfl ?_
          refine W_nil ?_
          exact N_step rfl (congrArg Value.bool hb374) (Below.refl _ _)
         ·
          intro w378 vq378 hB378 hH378
          have hS378 := hS358.below hB378
          refine W_guard_no rfl rfl rfl rfl rfl ?_
          refine W_nil ?_
          exact N_step rfl rfl (Below.refl _ _)
         ·
          intro w379 vq379 hB379 hH379
          have hS379 := hS358.below hB379
          refine W_guard_no rfl rfl rfl rfl rfl ?_
          refine W_nil ?_
          exact N_step rfl rfl (Below.refl _ _)
         ·
          intro w380 vq380 hB380 hH380
          have hS380 := hS358.below hB380
          refine W_guard_no rfl rfl rfl rfl rfl ?_
          refine W_nil ?_
          exact N_step rfl rfl (Below.refl _ _)
         ·
          intro w381 vq381 hB381 hH381
          have hS381 := hS358.below hB381
          refine W_guard_no rfl rfl rfl rfl rfl ?_
          refine W_nil ?_
          exact N_step rfl rfl (Below.refl _ _)
         ·
          intro w382 vq382 hB382 hH382
          have hS382 := hS358.below hB382
          refine W_pick_t rfl rfl rfl ?_
          refine W_nil ?_
          exact N_step rfl rfl (Below.refl _ _)
         ·
          intro w383 vq383 hB383 hH383
          have hS383 := hS358.below hB383
          refine W_move rfl rfl ?_
          refine W_nil ?_
          exact N_step rfl rfl (Below.refl _ _)
         ·
          intro w384 vq384 hB384 hH384
          have hS384 := hS358.below hB384
          refine W_guard_no rfl rfl rfl rfl rfl ?_
          refine W_nil ?_
          exact N_step rfl rfl (Below.refl _ _)
         ·
          intro w385 vq385 hB385 hH385
          have hS385 := hS358.below hB385
          refine W_guard_no rfl rfl rfl rfl rfl ?_
          refine W_nil ?_
          exact N_step rfl rfl (Below.refl _ _)
         ·
          intro w386 vq386 hB386 hH386
          have hS386 := hS358.below hB386
          refine W_guard_no rfl rfl rfl rfl rfl ?_
          refine W_nil ?_
          exact N_step rfl rfl (Below.refl _ _)
         ·
          intro w387 vq387 hB387 hH387
          have hS387 := hS358.below hB387
          refine W_guard_un rfl rfl rfl rfl ?_
          refine W_nil ?_
          exact N_step rfl rfl (Below.refl _ _)
         ·
          intro w388 vq388 hB388 hH388
          have hS388 := hS358.below hB388
          refine W_guard_un rfl rfl rfl rfl ?_
          refine W_nil ?_
          exact N_step rfl rfl (Below.refl _ _)
         ·
          intro w389 vq389 hB389 hH389
          have hS389 := hS358.below hB389
          refine W_guard_un rfl rfl rfl rfl ?_
          refine W_nil ?_
          exact N_step rfl rfl (Below.refl _ _)
         ·
          intro w390 vq390 hB390 hH390
          have hS390 := hS358.below hB390
          refine W_guard_un rfl rfl rfl rfl ?_
          refine W_nil ?_
          exact N_step rfl rfl (Below.refl _ _)
         ·
          intro w391 vq391 hB391 hH391
          have hS391 := hS358.below hB391
          refine W_guard_un rfl rfl rfl rfl ?_
          refine W_nil ?_
          exact N_step rfl rfl (Below.refl _ _)
         ·
          intro w392 vq392 hB392 hH392
          have hS392 := hS358.below hB392
          refine W_guard_un rfl rfl rfl rfl ?_
          refine W_nil ?_
          exact N_step rfl rfl (Below.refl _ _)
         ·
          intro w393 vq393 hB393 hH393
          have hS393 := hS358.below hB393
          refine W_guard_un rfl rfl rfl rfl ?_
          refine W_nil ?_
          exact N_step rfl rfl (Below.refl _ _)
         ·
          intro w394 vq394 hB394 hH394
          have hS394 := hS358.below hB394
          refine W_guard_un rfl rfl rfl rfl ?_
          refine W_nil ?_
          exact N_step rfl rfl (Below.refl _ _)
         ·
          intro w395 vq395 hB395 hH395
          have hS395 := hS358.below hB395
          refine W_guard_un rfl rfl rfl rfl ?_
          refine W_nil ?_
          exact N_step rfl rfl (Below.refl _ _)
         ·
          intro w396 vq396 hB396 hH396
          have hS396 := hS358.below hB396
          refine W_guard_un rfl rfl rfl rfl ?_
          refine W_nil ?_
          exact N_step rfl rfl (Below.refl _ _)
         ·
          intro w397 vq397 hB397 hH397
          have hS397 := hS358.below hB397
          refine W_guard_un rfl rfl rfl rfl ?_
          refine W_nil ?_
          exact N_step rfl rfl (Below.refl _ _)
         ·
          intro w398 vq398 hB398 hH398
          have hS398 := hS358.below hB398
          refine W_guard_un rfl rfl rfl rfl ?_
          refine W_nil ?_
          exact N_step rfl rfl (Below.refl _ _)
         ·
          intro w399 vq399 hB399 hH399
          have hS399 := hS358.below hB399
          refine W_guard_no rfl rfl rfl rfl rfl ?_
          refine W_nil ?_
          exact N_step rfl rfl (Below.refl _ _)
        intro w400 vq400 hB400 hH400
        have hS400 := hS358.below hB400
        refine W_pick_t rfl rfl rfl ?_
        refine W_nil ?_
        exact N_join _ ⟨rfl, F358, (Frz.le.refl _), hS400⟩ ⟨rfl, rfl, rfl, rfl, rfl, rfl, (look_bool rfl (by first | rfl | (rw [hb374]; first | done | rfl) | simp [hb374])), trivial⟩
       ·
        rcases Bool.eq_false_or_eq_true (decide ((x0.length : Int) ≤ x365.want)) with hb401 | hb401
        ·
         apply C_draw 25 [[], [0], [1], [2], [2], [4, 2], [3, 5, 2], [2, 6], [7], [8], [9, 8], [10, 8], [11], [11], [12, 13, 11], [14, 11], [15, 11], [11], [11], [18, 11], [17, 19, 11], [20, 11], [21, 11], [16, 22, 11], [11, 23, 8]] [.val (.int .i64 x365.want), .val (.bool (decide (x365.want < 0))), .val (.bool false), .val (.int .i64 x365.want), .val (v0), .val (.int .i64 (x0.length : Int)), .val (.bool (decide ((x0.length : Int) ≤ x365.want))), .val (.bool (decide ((x0.length : Int) ≤ x365.want))), .val (.bool true), .val undef, .val undef, .val undef, .val undef, .val undef, .val undef, .val undef, .val undef, .val undef, .val undef, .val undef, .val undef, .val undef, .val undef, .val undef, .val undef] Ty.mixed rfl rfl (by kernel_rfl) (by kernel_rfl) rfl
         ·
          refine ⟨?_, ?_, ?_, ?_, ?_, ?_, ?_, ?_, ?_, ?_, ?_, ?_, ?_, ?_, ?_, ?_, ?_, ?_, ?_, ?_, ?_, ?_, ?_, ?_, ?_, trivial⟩
          ·
           intro w402 vq402 hB402 hH402
           have hS402 := hS358.below hB402
           refine W_move rfl rfl ?_
           refine W_nil ?_
           exact N_step rfl rfl (Below.refl _ _)
          ·
           intro w403 vq403 hB403 hH403
           have hS403 := hS358.below hB403
           refine W_lss rfl rfl rfl ?_
           refine W_nil ?_
           exact N_step rfl rfl (Below.refl _ _)
          ·
           intro w404 vq404 hB404 hH404
           have hS404 := hS358.below hB404
           refine W_move rfl rfl ?_
           refine W_nil ?_
           exact N_step rfl (congrArg Value.bool hb374) (Below.refl _ _)
          ·
           intro w405 vq405 hB405 hH405
           have hS405 := hS358.below hB405
           refine W_guard_yes rfl ?_
           refine W_move rfl rfl ?_
           refine W_nil ?_
           exact N_step rfl rfl (Below.refl _ _)
          ·
           intro w406 vq406 hB406 hH406
           have hS406 := hS358.below hB406
           refine W_guard_yes rfl ?_
           refine W_move rfl rfl ?_
           refine W_nil ?_
           exact N_step rfl rfl (Below.refl _ _)
          ·
           intro w407 vq407 hB407 hH407
           have hS407 := hS358.below hB407
           refine W_guard_yes rfl ?_
           refine W_lenv rfl Go.Proofs.Try.underlying47 rfl h0.ln ?_
           refine W_nil ?_
           exact N_step rfl rfl (Below.refl _ _)
          ·
           intro w408 vq408 hB408 hH408
           have hS408 := hS358.below hB408
           refine W_guard_yes rfl ?_
           refine W_geq rfl rfl rfl ?_
           refine W_nil ?_
           exact N_step rfl rfl (Below.refl _ _)
          ·
           intro w409 vq409 hB409 hH409
           have hS409 := hS358.below hB409
           refine W_pick_f rfl rfl rfl ?_
           refine W_nil ?_
           exact N_step rfl rfl (Below.refl _ _)
          ·
           intro w410 vq410 hB410 hH410
           have hS410 := hS358.below hB410
           refine W_move rfl rfl ?_
           refine W_nil ?_
           exact N_step rfl (congrArg Value.bool hb401) (Below.refl _ _)
          ·
           intro w411 vq411 hB411 hH411
           have hS411 := hS358.below hB411
           refine W_guard_no rfl rfl rfl rfl rfl ?_
           refine W_nil ?_
           exact N_step rfl rfl (Below.refl _ _)
          ·
           intro w412 vq412 hB412 hH412
           have hS412 := hS358.below hB412
           refine W_guard_no rfl rfl rfl rfl rfl ?_
           refine W_nil ?_
           exact N_step rfl rfl (Below.refl _ _)
          ·
           intro w413 vq413 hB413 hH413
           have hS413 := hS358.below hB413
           refine W_guard_no rfl rfl rfl rfl rfl ?_
           refine W_nil ?_
           exact N_step rfl rfl (Below.refl _ _)
          ·
           intro w414 vq414 hB414 hH414
           have hS414 := hS358.below hB414
           refine W_guard_un rfl rfl rfl rfl ?_
           refine W_nil ?_
           exact N_step rfl rfl (Below.refl _ _)
          ·
           intro w415 vq415 hB415 hH415
           have hS415 := hS358.below hB415
           refine W_guard_un rfl rfl rfl rfl ?_
           refine W_nil ?_
           exact N_step rfl rfl (Below.refl _ _)
          ·
           intro w416 vq416 hB416 hH416
           have hS416 := hS358.below hB416
           refine W_guard_un rfl rfl rfl rfl ?_
           refine W_nil ?_
           exact N_step rfl rfl (Below.refl _ _)
          ·
           intro w417 vq417 hB417 hH417
           have hS417 := hS358.below hB417
           refine W_guard_un rfl rfl rfl rfl ?_
           refine W_nil ?_
           exact N_step rfl rfl (Below.refl _ _)
          ·
           intro w418 vq418 hB418 hH418
           have hS418 := hS358.below hB418
           refine W_guard_un rfl rfl rfl rfl ?_
           refine W_nil ?_
           exact N_step rfl rfl (Below.refl _ _)
          ·
           intro w419 vq419 hB419 hH419
           have hS419 := hS358.below hB419
           refine W_guard_un rfl rfl rfl rfl ?_
           refine W_nil ?_
           exact N_step rfl rfl (Below.refl _ _)
          ·
           intro w420 vq420 hB420 hH420
           have hS420 := hS358.below hB420
           refine W_guard_un rfl rfl rfl rfl ?_
           refine W_nil ?_
           exact N_step rfl rfl (Below.refl _ _)
          ·
           intro w421 vq421 hB421 hH421
           have hS421 := hS358.below hB421
           refine W_guard_un rfl rfl rfl rfl ?_
           refine W_nil ?_
           exact N_step rfl rfl (Below.refl _ _)
          ·
           intro w422 vq422 hB422 hH422
           have hS422 := hS358.below hB422
           refine W_guard_un rfl rfl rfl rfl ?_
           refine W_nil ?_
           exact N_step rfl rfl (Below.refl _ _)
          ·
           intro w423 vq423 hB423 hH423
           have hS423 := hS358.below hB423
           refine W_guard_un rfl rfl rfl rfl ?_
           refine W_nil ?_
           exact N_step rfl rfl (Below.refl _ _)
          ·
           intro w424 vq424 hB424 hH424
           have hS424 := hS358.below hB424
           refine W_guard_un rfl rfl rfl rfl ?_
           refine W_nil ?_
           exact N_step rfl rfl (Below.refl _ _)
          ·
           intro w425 vq425 hB425 hH425
           have hS425 := hS358.below hB425
           refine W_guard_un rfl rfl rfl rfl ?_
           refine W_nil ?_
           exact N_step rfl rfl (Below.refl _ _)
          ·
           intro w426 vq426 hB426 hH426
           have hS426 := hS358.below hB426
           refine W_guard_no rfl rfl rfl rfl rfl ?_
           refine W_nil ?_
           exact N_step rfl rfl (Below.refl _ _)
         intro w427 vq427 hB427 hH427
         have hS427 := hS358.below hB427
         refine W_pick_t rfl rfl rfl ?_
         refine W_nil ?_
         exact N_join _ ⟨rfl, F358, (Frz.le.refl _), hS427⟩ ⟨rfl, rfl, rfl, rfl, rfl, rfl, (look_bool rfl (by first | rfl | (rw [hb401, hb374]; first | done | rfl) | simp [hb374, hb401])), trivial⟩
        ·
         rcases Bool.eq_false_or_eq_true (decide (0 < i359)) with hb428 | hb428
         ·
          have hy429 := hx368
          rw [only_t (by first | rfl | (rw [hb401, hb374, hb428]; first | done | rfl) | simp [hb374, hb401, hb428])] at hy429
          obtain ⟨hp430, hy430⟩ := ix_some hy429
          obtain ⟨cs430, hr430, he430⟩ := hS358.rowAt (k := 1) rfl hy430
          obtain rfl := hr430
          replace he430 : El _ _ 5 _ _ := he430
          have hy431 := hx370
          rw [only_t (by first | rfl | (rw [hb401, hb374, hb428]; first | done | rfl) | simp [hb374, hb401, hb428])] at hy431
          obtain ⟨hp432, hy432⟩ := ix_some hy431
          obtain ⟨cs432, hr432, he432⟩ := hS358.rowAt (k := 1) rfl hy432
          obtain rfl := hr432
          replace he432 : El _ _ 5 _ _ := he432
          apply C_draw 25 [[], [0], [1], [2], [2], [4, 2], [3, 5, 2], [2, 6], [7], [8], [9, 8], [10, 8], [11], [11], [12, 13, 11], [14, 11], [15, 11], [11], [11], [18, 11], [17, 19, 11], [20, 11], [21, 11], [16, 22, 11], [11, 23, 8]] [.val (.int .i64 x365.want), .val (.bool (decide (x365.want < 0))), .val (.bool false), .val (.int .i64 x365.want), .val (v0), .val (.int .i64 (x0.length : Int)), .val (.bool (decide ((x0.length : Int) ≤ x365.want))), .val (.bool (decide ((x0.length : Int) ≤ x365.want))), .val (.bool false), .val (.int .i64 i359), .val (.bool (decide (0 < i359))), .val (.bool true), .val (ur4_0), .val (.int .i64 i359), .val (elp ur4_0 (i359.toNat * 5)), .val (elp ur4_0 ((i359.toNat * 5) + 1)), .val (.agg (Loc.cells x368.loc).toArray), .val (ur4_0), .val (.int .i64 i359), .val (.int .i64 (wr (i359 - 1))), .val (elp ur4_0 ((wr (i359 - 1)).toNat * 5)), .val (elp ur4_0 (((wr (i359 - 1)).toNat * 5) + 1)), .val (.agg (Loc.cells x370.loc).toArray), .val (.bool r372), .val (.bool r372)] Ty.mixed rfl rfl (by kernel_rfl) (by kernel_rfl) rfl
          ·
           refine ⟨?_, ?_, ?_, ?_, ?_, ?_, ?_, ?_, ?_, ?_, ?_, ?_, ?_, ?_, ?_, ?_, ?_, ?_, ?_, ?_, ?_, ?_, ?_, ?_, ?_, trivial⟩
           ·
            intro w433 vq433 hB433 hH433
            have hS433 := hS358.below hB433
            refine W_move rfl rfl ?_
            refine W_nil ?_
            exact N_step rfl rfl (Below.refl _ _)
           ·
            intro w434 vq434 hB434 hH434
            have hS434 := hS358.below hB434
            refine W_lss rfl rfl rfl ?_
            refine W_nil ?_
            exact N_step rfl rfl (Below.refl _ _)
           ·
            intro w435 vq435 hB435 hH435
            have hS435 := hS358.below hB435
            refine W_move rfl rfl ?_
            refine W_nil ?_
            exact N_step rfl (congrArg Value.bool hb374) (Below.refl _ _)
           ·
            intro w436 vq436 hB436 hH436
            have hS436 := hS358.below hB436
            refine W_guard_yes rfl ?_
            refine W_move rfl rfl ?_
            refine W_nil ?_
            exact N_step rfl rfl (Below.refl _ _)
           ·
            intro w437 vq437 hB437 hH437
            have hS437 := hS358.below hB437
            refine W_guard_yes rfl ?_
            refine W_move rfl rfl ?_
            refine W_nil ?_
            exact N_step rfl rfl (Below.refl _ _)
           ·
            intro w438 vq438 hB438 hH438
            have hS438 := hS358.below hB438
            refine W_guard_yes rfl ?_
            refine W_lenv rfl Go.Proofs.Try.underlying47 rfl h0.ln ?_
            refine W_nil ?_
            exact N_step rfl rfl (Below.refl _ _)
           ·
            intro w439 vq439 hB439 hH439
            have hS439 := hS358.below hB439
            refine W_guard_yes rfl ?_
            refine W_geq rfl rfl rfl ?_
            refine W_nil ?_
            exact N_step rfl rfl (Below.refl _ _)
           ·
            intro w440 vq440 hB440 hH440
            have hS440 := hS358.below hB440
            refine W_pick_f rfl rfl rfl ?_
            refine W_nil ?_
            exact N_step rfl rfl (Below.refl _ _)
           ·
            intro w441 vq441 hB441 hH441
            have hS441 := hS358.below hB441
            refine W_move rfl rfl ?_
            refine W_nil ?_
            exact N_step rfl (congrArg Value.bool hb401) (Below.refl _ _)
           ·
            intro w442 vq442 hB442 hH442
            have hS442 := hS358.below hB442
            refine W_guard_yes rfl ?_
            refine W_move rfl rfl ?_
            refine W_nil ?_
            exact N_step rfl rfl (Below.refl _ _)
           ·
            intro w443 vq443 hB443 hH443
            have hS443 := hS358.below hB443
            refine W_guard_yes rfl ?_
            refine W_gtr rfl rfl rfl ?_
            refine W_nil ?_
            exact N_step rfl rfl (Below.refl _ _)
           ·
            intro w444 vq444 hB444 hH444
            have hS444 := hS358.below hB444
            refine W_guard_yes rfl ?_
            refine W_move rfl rfl ?_
            refine W_nil ?_
            exact N_step rfl (congrArg Value.bool hb428) (Below.refl _ _)
           ·
            intro w445 vq445 hB445 hH445
            have hS445 := hS358.below hB445
            refine W_guard_yes rfl ?_
            refine W_move rfl rfl ?_
            refine W_nil ?_
            exact N_step rfl rfl (Below.refl _ _)
           ·
            intro w446 vq446 hB446 hH446
            have hS446 := hS358.below hB446
            refine W_guard_yes rfl ?_
            refine W_move rfl rfl ?_
            refine W_nil ?_
            exact N_step rfl rfl (Below.refl _ _)
           ·
            intro w447 vq447 hB447 hH447
            have hS447 := hS358.below hB447
            refine W_guard_yes rfl ?_
            refine W_ix rfl Go.Proofs.Try.underlying23 Ty.cells39 Ty.info39 rfl rfl (he430.below hB447) hp430 rfl ?_
            refine W_nil ?_
            exact N_step rfl rfl (Below.refl _ _)
           ·
            intro w448 vq448 hB448 hH448
            have hS448 := hS358.below hB448
            refine W_guard_yes rfl ?_
            refine W_fld 1 rfl Ty.field39_1 rfl (he430.below hB448) ?_
            refine W_nil ?_
            exact N_step rfl rfl (Below.refl _ _)
           ·
            intro w449 vq449 hB449 hH449
            have hS449 := hS358.below hB449
            refine W_guard_yes rfl ?_
            refine W_ldg 1 ((Loc.cells x368.loc)) rfl Ty.agg37 Ty.size37 rfl (he430.below hB449) (by omega) (fun q u h => sub_at (post := []) rfl h) ?_
            refine W_nil ?_
            exact N_step rfl rfl (Below.refl _ _)
           ·
            intro w450 vq450 hB450 hH450
            have hS450 := hS358.below hB450
            refine W_guard_yes rfl ?_
            refine W_move rfl rfl ?_
            refine W_nil ?_
            exact N_step rfl rfl (Below.refl _ _)
           ·
            intro w451 vq451 hB451 hH451
            have hS451 := hS358.below hB451
            refine W_guard_yes rfl ?_
            refine W_move rfl rfl ?_
            refine W_nil ?_
            exact N_step rfl rfl (Below.refl _ _)
           ·
            intro w452 vq452 hB452 hH452
            have hS452 := hS358.below hB452
            refine W_guard_yes rfl ?_
            refine W_subi rfl rfl rfl rfl ?_
            refine W_nil ?_
            exact N_step rfl rfl (Below.refl _ _)
           ·
            intro w453 vq453 hB453 hH453
            have hS453 := hS358.below hB453
            refine W_guard_yes rfl ?_
            refine W_ix rfl Go.Proofs.Try.underlying23 Ty.cells39 Ty.info39 rfl rfl (he432.below hB453) hp432 rfl ?_
            refine W_nil ?_
            exact N_step rfl rfl (Below.refl _ _)
           ·
            intro w454 vq454 hB454 hH454
            have hS454 := hS358.below hB454
            refine W_guard_yes rfl ?_
            refine W_fld 1 rfl Ty.field39_1 rfl (he432.below hB454) ?_
            refine W_nil ?_
            exact N_step rfl rfl (Below.refl _ _)
           ·
            intro w455 vq455 hB455 hH455
            have hS455 := hS358.below hB455
            refine W_guard_yes rfl ?_
            refine W_ldg 1 ((Loc.cells x370.loc)) rfl Ty.agg37 Ty.size37 rfl (he432.below hB455) (by omega) (fun q u h => sub_at (post := []) rfl h) ?_
            refine W_nil ?_
            exact N_step rfl rfl (Below.refl _ _)
           ·
            intro w456 vq456 hB456 hH456
            have hS456 := hS358.below hB456
            refine W_guard_yes rfl ?_
            have hy457 := hr372
            rw [only_t (by first | rfl | (rw [hb401, hb374, hb428]; first | done | rfl) | simp [hb374, hb401, hb428])] at hy457
            refine W_call rfl Ty.named31 rfl (plan_Ahead_ok hS456.agree hy457) ?_
            rintro v458 w458 ⟨Fr372, rfl, hT458⟩
            have hS458 := hS456.lent hT458
            refine W_nil ?_
            exact N_step rfl rfl hT458.below0
           ·
            intro w459 vq459 hB459 hH459
            have hS459 := hS358.below hB459
            refine W_guard_yes rfl ?_
            refine W_pick_t rfl rfl rfl ?_
            refine W_nil ?_
            exact N_step rfl rfl (Below.refl _ _)
          intro w460 vq460 hB460 hH460
          have hS460 := hS358.below hB460
          refine W_pick_f rfl rfl rfl ?_
          refine W_nil ?_
          exact N_join _ ⟨rfl, F358, (Frz.le.refl _), hS460⟩ ⟨rfl, rfl, rfl, rfl, rfl, rfl, (look_bool rfl (by first | rfl | (rw [hb401, hb374, hb428]; first | done | rfl) | simp [hb374, hb401, hb428])), trivial⟩
         ·
          apply C_draw 25 [[], [0], [1], [2], [2], [4, 2], [3, 5, 2], [2, 6], [7], [8], [9, 8], [10, 8], [11], [11], [12, 13, 11], [14, 11], [15, 11], [11], [11], [18, 11], [17, 19, 11], [20, 11], [21, 11], [16, 22, 11], [11, 23, 8]] [.val (.int .i64 x365.want), .val (.bool (decide (x365.want < 0))), .val (.bool false), .val (.int .i64 x365.want), .val (v0), .val (.int .i64 (x0.length : Int)), .val (.bool (decide ((x0.length : Int) ≤ x365.want))), .val (.bool (decide ((x0.length : Int) ≤ x365.want))), .val (.bool false), .val (.int .i64 i359), .val (.bool (decide (0 < i359))), .val (.bool false), .val undef, .val undef, .val undef, .val undef, .val undef, .val undef, .val undef, .val undef, .val undef, .val undef, .val undef, .val undef, .val (.bool false)] Ty.mixed rfl rfl (by kernel_rfl) (by kernel_rfl) rfl
          ·
           refine ⟨?_, ?_, ?_, ?_, ?_, ?_, ?_, ?_, ?_, ?_, ?_, ?_, ?_, ?_, ?_, ?_, ?_, ?_, ?_, ?_, ?_, ?_, ?_, ?_, ?_, trivial⟩
           ·
            intro w461 vq461 hB461 hH461
            have hS461 := hS358.below hB461
            refine W_move rfl rfl ?_
            refine W_nil ?_
            exact N_step rfl rfl (Below.refl _ _)
           ·
            intro w462 vq462 hB462 hH462
            have hS462 := hS358.below hB462
            refine W_lss rfl rfl rfl ?_
            refine W_nil ?_
            exact N_step rfl rfl (Below.refl _ _)
           ·
            intro w463 vq463 hB463 hH463
            have hS463 := hS358.below hB463
            refine W_move rfl rfl ?_
            refine W_nil ?_
            exact N_step rfl (congrArg Value.bool hb374) (Below.refl _ _)
           ·
            intro w464 vq464 hB464 hH464
            have hS464 := hS358.below hB464
            refine W_guard_yes rfl ?_
            refine W_move rfl rfl ?_
            refine W_nil ?_
            exact N_step rfl rfl (Below.refl _ _)
           ·
            intro w465 vq465 hB465 hH465
            have hS465 := hS358.below hB465
            refine W_guard_yes rfl ?_
            refine W_move rfl rfl ?_
            refine W_nil ?_
            exact N_step rfl rfl (Below.refl _ _)
           ·
            intro w466 vq466 hB466 hH466
            have hS466 := hS358.below hB466
            refine W_guard_yes rfl ?_
            refine W_lenv rfl Go.Proofs.Try.underlying47 rfl h0.ln ?_
            refine W_nil ?_
            exact N_step rfl rfl (Below.refl _ _)
           ·
            intro w467 vq467 hB467 hH467
            have hS467 := hS358.below hB467
            refine W_guard_yes rfl ?_
            refine W_geq rfl rfl rfl ?_
            refine W_nil ?_
            exact N_step rfl rfl (Below.refl _ _)
           ·
            intro w468 vq468 hB468 hH468
            have hS468 := hS358.below hB468
            refine W_pick_f rfl rfl rfl ?_
            refine W_nil ?_
            exact N_step rfl rfl (Below.refl _ _)
           ·
            intro w469 vq469 hB469 hH469
            have hS469 := hS358.below hB469
            refine W_move rfl rfl ?_
            refine W_nil ?_
            exact N_step rfl (congrArg Value.bool hb401) (Below.refl _ _)
           ·
            intro w470 vq470 hB470 hH470
            have hS470 := hS358.below hB470
            refine W_guard_yes rfl ?_
            refine W_move rfl rfl ?_
            refine W_nil ?_
            exact N_step rfl rfl (Below.refl _ _)
           ·
            intro w471 vq471 hB471 hH471
            have hS471 := hS358.below hB471
            refine W_guard_yes rfl ?_
            refine W_gtr rfl rfl rfl ?_
            refine W_nil ?_
            exact N_step rfl rfl (Below.refl _ _)
           ·
            intro w472 vq472 hB472 hH472
            have hS472 := hS358.below hB472
            refine W_guard_yes rfl ?_
            refine W_move rfl rfl ?_
            refine W_nil ?_
            exact N_step rfl (congrArg Value.bool hb428) (Below.refl _ _)
           ·
            intro w473 vq473 hB473 hH473
            have hS473 := hS358.below hB473
            refine W_guard_no rfl rfl rfl rfl rfl ?_
            refine W_nil ?_
            exact N_step rfl rfl (Below.refl _ _)
           ·
            intro w474 vq474 hB474 hH474
            have hS474 := hS358.below hB474
            refine W_guard_no rfl rfl rfl rfl rfl ?_
            refine W_nil ?_
            exact N_step rfl rfl (Below.refl _ _)
           ·
            intro w475 vq475 hB475 hH475
            have hS475 := hS358.below hB475
            refine W_guard_no rfl rfl rfl rfl rfl ?_
            refine W_nil ?_
            exact N_step rfl rfl (Below.refl _ _)
           ·
            intro w476 vq476 hB476 hH476
            have hS476 := hS358.below hB476
            refine W_guard_no rfl rfl rfl rfl rfl ?_
            refine W_nil ?_
            exact N_step rfl rfl (Below.refl _ _)
           ·
            intro w477 vq477 hB477 hH477
            have hS477 := hS358.below hB477
            refine W_guard_no rfl rfl rfl rfl rfl ?_
            refine W_nil ?_
            exact N_step rfl rfl (Below.refl _ _)
           ·
            intro w478 vq478 hB478 hH478
            have hS478 := hS358.below hB478
            refine W_guard_no rfl rfl rfl rfl rfl ?_
            refine W_nil ?_
            exact N_step rfl rfl (Below.refl _ _)
           ·
            intro w479 vq479 hB479 hH479
            have hS479 := hS358.below hB479
            refine W_guard_no rfl rfl rfl rfl rfl ?_
            refine W_nil ?_
            exact N_step rfl rfl (Below.refl _ _)
           ·
            intro w480 vq480 hB480 hH480
            have hS480 := hS358.below hB480
            refine W_guard_no rfl rfl rfl rfl rfl ?_
            refine W_nil ?_
            exact N_step rfl rfl (Below.refl _ _)
           ·
            intro w481 vq481 hB481 hH481
            have hS481 := hS358.below hB481
            refine W_guard_no rfl rfl rfl rfl rfl ?_
            refine W_nil ?_
            exact N_step rfl rfl (Below.refl _ _)
           ·
            intro w482 vq482 hB482 hH482
            have hS482 := hS358.below hB482
            refine W_guard_no rfl rfl rfl rfl rfl ?_
            refine W_nil ?_
            exact N_step rfl rfl (Below.refl _ _)
           ·
            intro w483 vq483 hB483 hH483
            have hS483 := hS358.below hB483
            refine W_guard_no rfl rfl rfl rfl rfl ?_
            refine W_nil ?_
            exact N_step rfl rfl (Below.refl _ _)
           ·
            intro w484 vq484 hB484 hH484
            have hS484 := hS358.below hB484
            refine W_guard_no rfl rfl rfl rfl rfl ?_
            refine W_nil ?_
            exact N_step rfl rfl (Below.refl _ _)
           ·
            intro w485 vq485 hB485 hH485
            have hS485 := hS358.below hB485
            refine W_guard_yes rfl ?_
            refine W_pick_f rfl rfl rfl ?_
            refine W_nil ?_
            exact N_step rfl rfl (Below.refl _ _)
          intro w486 vq486 hB486 hH486
          have hS486 := hS358.below hB486
          refine W_pick_f rfl rfl rfl ?_
          refine W_nil ?_
          exact N_join _ ⟨rfl, F358, (Frz.le.refl _), hS486⟩ ⟨rfl, rfl, rfl, rfl, rfl, rfl, (look_bool rfl (by first | rfl | (rw [hb401, hb374, hb428]; first | done | rfl) | simp [hb374, hb401, hb428])), trivial⟩
      rintro E w373 ⟨rfl, F373, le373, hS373⟩
      refine N_code ?_
      refine C_cond rfl (fun hc487 => ?_) (fun hc487 => ?_)
      ·
       rw [if_t hc487] at H
       refine C_seq ?_
       refine C_region ?_
       refine W_assign rfl rfl ?_
       refine W_nil ?_
       refine N_code ?_
       obtain rfl := Option.some.inj H
       refine C_ret rfl rfl ?_
       exact ⟨F373, rfl, hS373.pick [] (by decide)⟩
      ·
       rw [if_f hc487] at H
       refine C_skip ?_
       refine N_code ?_
       refine C_seq ?_
       obtain ⟨x488, hx488, H⟩ := bd_some H
       refine C_region ?_
       refine W_move rfl rfl ?_
       refine W_move rfl rfl ?_
       obtain ⟨hp490, hy490⟩ := ix_some hx488
       obtain ⟨cs490, hr490, he490⟩ := hS373.rowAt (k := 0) rfl hy490
       obtain rfl := hr490
       replace he490 : El _ _ 1 _ _ := he490
       refine W_ix rfl Go.Proofs.Try.underlying22 Ty.cells3 Ty.info3 rfl rfl he490 hp490 rfl ?_
       refine W_ld1 0 rfl Ty.cell3 rfl he490 (by omega) rfl ?_
       refine W_add rfl rfl rfl rfl ?_
       refine W_ix rfl Go.Proofs.Try.underlying22 Ty.cells3 Ty.info3 rfl rfl he490 hp490 rfl ?_
       refine W_put (c := [.int .i64 (wr (x488 + 1))]) 0 (x365.want.toNat) 0 x488 (wr (x488 + 1)) rfl rfl hS373 rfl (ix_some hx488).2 (by first | rfl | (show _ = _ * 1 + _; omega)) rfl Ty.size3 (by intro y hy; simp at hy; subst hy; rfl) (by first | decide | exact Nat.le_of_ble_eq_true rfl) (by rintro cs rfl; rfl) ?_
       intro w491 hS491
       refine W_nil ?_
       refine N_code ?_
       refine C_seq ?_
       refine C_region ?_
       refine W_assign rfl rfl ?_
       refine W_nil ?_
       refine N_code ?_
       refine C_seq_join (fun E wq => ∃ b494 : Bool, cellarerlaw21_PlanRises.k13 i359 l360 rec361 x365 x488 b494 = some r ∧ ∃ (F493 : Frz), E = [(0, v0), (3, ur4_0), (4, ur4_1), (5, v7), (6, .int .i64 i359), (8, .bool b494)] ∧ F373.le F493 ∧ St [] w F F493 [.row tI 3 v7 (l360.set x365.want.toNat (wr (x488 + 1))), .row Read.t 39 ur4_0 r4.1, .row tI 3 ur4_1 r4.2] wq) ?_ ?_
       ·
        refine C_seq ?_
        refine C_region ?_
        refine W_assign rfl rfl ?_
        refine W_nil ?_
        refine N_code ?_
        refine C_block ?_
        refine C_loopM (fun (s : Bool × Int) E wq => ∃ (F496 : Frz), E = [(0, v0), (3, ur4_0), (4, ur4_1), (5, v7), (6, .int .i64 i359), (7, .int .i64 x365.want), (8, .bool s.1), (9, .int .i64 s.2)] ∧ F373.le F496 ∧ St [] w F F496 [.row tI 3 v7 (l360.set x365.want.toNat (wr (x488 + 1))), .row Read.t 39 ur4_0 r4.1, .row tI 3 ur4_1 r4.2] wq) H ?_ ?_
        ·
         exact ⟨_, ⟨F373, rfl, (Frz.le.refl _), hS491⟩, ⟨rfl, rfl, rfl, rfl, rfl, rfl, rfl, rfl, trivial⟩⟩
        ·
         rintro rec499 ⟨b497, i498⟩ E w496 hI H
         try dsimp only at hI
         obtain ⟨F496, rfl, le496, hS496⟩ := hI
         dsimp only [cellarerlaw21_PlanRises.l14] at H
         refine C_seq ?_
         refine C_seq ?_
         obtain ⟨x500, hx500, H⟩ := bd_some H
         refine C_region ?_
         refine W_move rfl rfl ?_
         refine W_move rfl rfl ?_
         refine W_move rfl rfl ?_
         obtain ⟨hp502, hy502⟩ := ix_some hx500
         obtain ⟨cs502, hr502, he502⟩ := (h0.mono (((ler4.trans le358).trans le373).trans le496)).at_ hy502
         obtain ⟨ue501_0, rfl, hle501_0, hue501_0⟩ := hr502
         replace he502 : Elf _ _ 33 _ _ := he502
         refine W_ix rfl Go.Proofs.Try.underlying47 Ty.cells52 Ty.info52 rfl rfl (he502.el hS496.agree) hp502 rfl ?_
         refine W_fld 32 rfl Ty.field52_1 rfl (he502.el hS496.agree) ?_
         refine W_ld1 32 rfl Ty.cell49 rfl (he502.el hS496.agree) (by omega) rfl ?_
         refine W_lenv rfl Go.Proofs.Try.underlying49 rfl hue501_0.ln ?_
         refine W_lss rfl rfl rfl ?_
         refine W_nil ?_
         refine N_code ?_
         refine C_cond rfl (fun hc503 => ?_) (fun hc503 => ?_)
         ·
          rw [if_t hc503] at H
          refine C_skip ?_
          refine N_code ?_
          refine C_seq ?_
          refine C_block ?_
          refine C_seq ?_
          obtain ⟨x504, hx504, H⟩ := bd_some H
          obtain ⟨x506, hx506, H⟩ := bd_some H
          obtain ⟨x508, hx508, H⟩ := bd_some H
          obtain ⟨r510, hr510, H⟩ := bd_some H
          refine C_join (fun E wq => E = [(0, v0), (3, ur4_0), (4, ur4_1), (5, v7), (6, .int .i64 i359), (7, .int .i64 x365.want), (8, .bool (b497 || r510)), (9, .int .i64 i498)] ∧ ∃ F511 : Frz, F496.le F511 ∧ St [] w F F511 [.row tI 3 v7 (l360.set x365.want.toNat (wr (x488 + 1))), .row Read.t 39 ur4_0 r4.1, .row tI 3 ur4_1 r4.2] wq) ?_ ?_
          ·
           rcases Bool.eq_false_or_eq_true b497 with hb512 | hb512
           ·
            apply C_draw 16 [[], [0], [1], [1], [2, 3, 1], [4, 1], [5, 1], [1], [6, 7, 1], [8, 1], [1], [1], [10, 11, 1], [12, 1], [13, 1], [9, 14, 1]] [.val (.bool b497), .val (.bool true), .val undef, .val undef, .val undef, .val undef, .val undef, .val undef, .val undef, .val undef, .val undef, .val undef, .val undef, .val undef, .val undef, .val undef] Ty.mixed rfl rfl (by kernel_rfl) (by kernel_rfl) rfl
            ·
             refine ⟨?_, ?_, ?_, ?_, ?_, ?_, ?_, ?_, ?_, ?_, ?_, ?_, ?_, ?_, ?_, ?_, trivial⟩
             ·
              intro w513 vq513 hB513 hH513
              have hS513 := hS496.below hB513
              refine W_move rfl rfl ?_
              refine W_nil ?_
              exact N_step rfl rfl (Below.refl _ _)
             ·
              intro w514 vq514 hB514 hH514
              have hS514 := hS496.below hB514
              refine W_move rfl rfl ?_
              refine W_nil ?_
              exact N_step rfl (congrArg Value.bool hb512) (Below.refl _ _)
             ·
              intro w515 vq515 hB515 hH515
              have hS515 := hS496.below hB515
              refine W_guard_no rfl rfl rfl rfl rfl ?_
              refine W_nil ?_
              exact N_step rfl rfl (Below.refl _ _)
             ·
              intro w516 vq516 hB516 hH516
              have hS516 := hS496.below hB516
              refine W_guard_no rfl rfl rfl rfl rfl ?_
              refine W_nil ?_
              exact N_step rfl rfl (Below.refl _ _)
             ·
              intro w517 vq517 hB517 hH517
              have hS517 := hS496.below hB517
              refine W_guard_no rfl rfl rfl rfl rfl ?_
              refine W_nil ?_
              exact N_step rfl rfl (Below.refl _ _)
             ·
              intro w518 vq518 hB518 hH518
              have hS518 := hS496.below hB518
              refine W_guard_no rfl rfl rfl rfl rfl ?_
              refine W_nil ?_
              exact N_step rfl rfl (Below.refl _ _)
             ·
              intro w519 vq519 hB519 hH519
              have hS519 := hS496.below hB519
              refine W_guard_no rfl rfl rfl rfl rfl ?_
              refine W_nil ?_
              exact N_step rfl rfl (Below.refl _ _)
             ·
              intro w520 vq520 hB520 hH520
              have hS520 := hS496.below hB520
              refine W_guard_no rfl rfl rfl rfl rfl ?_
              refine W_nil ?_
              exact N_step rfl rfl (Below.refl _ _)
             ·
              intro w521 vq521 hB521 hH521
              have hS521 := hS496.below hB521
              refine W_guard_no rfl rfl rfl rfl rfl ?_
              refine W_nil ?_
              exact N_step rfl rfl (Below.refl _ _)
             ·
              intro w522 vq522 hB522 hH522
              have hS522 := hS496.below hB522
              refine W_guard_no rfl rfl rfl rfl rfl ?_
              refine W_nil ?_
              exact N_step rfl rfl (Below.refl _ _)
             ·
              intro w523 vq523 hB523 hH523
              have hS523 := hS496.below hB523
              refine W_guard_no rfl rfl rfl rfl rfl ?_
              refine W_nil ?_
              exact N_step rfl rfl (Below.refl _ _)
             ·
              intro w524 vq524 hB524 hH524
              have hS524 := hS496.below hB524
              refine W_guard_no rfl rfl rfl rfl rfl ?_
              refine W_nil ?_
              exact N_step rfl rfl (Below.refl _ _)
             ·
              intro w525 vq525 hB525 hH525
              have hS525 := hS496.below hB525
              refine W_guard_no rfl rfl rfl rfl rfl ?_
              refine W_nil ?_
              exact N_step rfl rfl (Below.refl _ _)
             ·
              intro w526 vq526 hB526 hH526
              have hS526 := hS496.below hB526
              refine W_guard_no rfl rfl rfl rfl rfl ?_
              refine W_nil ?_
              exact N_step rfl rfl (Below.refl _ _)
             ·
              intro w527 vq527 hB527 hH527
              have hS527 := hS496.below hB527
              refine W_guard_no rfl rfl rfl rfl rfl ?_
              refine W_nil ?_
              exact N_step rfl rfl (Below.refl _ _)
             ·
              intro w528 vq528 hB528 hH528
              have hS528 := hS496.below hB528
              refine W_guard_no rfl rfl rfl rfl rfl ?_
              refine W_nil ?_
              exact N_step rfl rfl (Below.refl _ _)
            intro w529 vq529 hB529 hH529
            have hS529 := hS496.below hB529
            refine W_pick_t rfl rfl rfl ?_
            refine W_assign rfl rfl ?_
            refine W_nil ?_
            exact N_join _ ⟨rfl, F496, (Frz.le.refl _), hS529⟩ ⟨rfl, rfl, rfl, rfl, rfl, rfl, (look_bool rfl (by first | rfl | (rw [hb512]; first | done | rfl) | simp [hb512])), rfl, trivial⟩
           ·
            have hy530 := hx504
            rw [only_t (by first | rfl | (rw [hb512]; first | done | rfl) | simp [hb512])] at hy530
            obtain ⟨hp531, hy531⟩ := ix_some hy530
            obtain ⟨cs531, hr531, he531⟩ := (h0.mono (((ler4.trans le358).trans le373).trans le496)).at_ hy531
            obtain ⟨ue505_0, rfl, hle505_0, hue505_0⟩ := hr531
            replace he531 : Elf _ _ 33 _ _ := he531
            have hy532 := hx506
            rw [only_t (by first | rfl | (rw [hb512]; first | done | rfl) | simp [hb512])] at hy532
            obtain ⟨hp533, hy533⟩ := ix_some hy532
            obtain ⟨cs533, hr533, he533⟩ := hue505_0.at_ hy533
            obtain rfl := hr533
            replace he533 : Elf _ _ 4 _ _ := he533
            have hy534 := hx508
            rw [only_t (by first | rfl | (rw [hb512]; first | done | rfl) | simp [hb512])] at hy534
            obtain ⟨hp535, hy535⟩ := ix_some hy534
            obtain ⟨cs535, hr535, he535⟩ := hS496.rowAt (k := 1) rfl hy535
            obtain rfl := hr535
            replace he535 : El _ _ 5 _ _ := he535
            apply C_draw 16 [[], [0], [1], [1], [2, 3, 1], [4, 1], [5, 1], [1], [6, 7, 1], [8, 1], [1], [1], [10, 11, 1], [12, 1], [13, 1], [9, 14, 1]] [.val (.bool b497), .val (.bool false), .val (v0), .val (.int .i64 x365.want), .val (elp v0 (x365.want.toNat * 33)), .val (elp v0 ((x365.want.toNat * 33) + 32)), .val (ue505_0), .val (.int .i64 i498), .val (elp ue505_0 (i498.toNat * 4)), .val (.agg (Loc.cells x506).toArray), .val (ur4_0), .val (.int .i64 i359), .val (elp ur4_0 (i359.toNat * 5)), .val (elp ur4_0 ((i359.toNat * 5) + 1)), .val (.agg (Loc.cells x508.loc).toArray), .val (.bool r510)] Ty.mixed rfl rfl (by kernel_rfl) (by kernel_rfl) rfl
            ·
             refine ⟨?_, ?_, ?_, ?_, ?_, ?_, ?_, ?_, ?_, ?_, ?_, ?_, ?_, ?_, ?_, ?_, trivial⟩
             ·
              intro w536 vq536 hB536 hH536
              have hS536 := hS496.below hB536
              refine W_move rfl rfl ?_
              refine W_nil ?_
              exact N_step rfl rfl (Below.refl _ _)
             ·
              intro w537 vq537 hB537 hH537
              have hS537 := hS496.below hB537
              refine W_move rfl rfl ?_
              refine W_nil ?_
              exact N_step rfl (congrArg Value.bool hb512) (Below.refl _ _)
             ·
              intro w538 vq538 hB538 hH538
              have hS538 := hS496.below hB538
              refine W_guard_yes rfl ?_
              refine W_move rfl rfl ?_
              refine W_nil ?_
              exact N_step rfl rfl (Below.refl _ _)
             ·
              intro w539 vq539 hB539 hH539
              have hS539 := hS496.below hB539
              refine W_guard_yes rfl ?_
              refine W_move rfl rfl ?_
              refine W_nil ?_
              exact N_step rfl rfl (Below.refl _ _)
             ·
              intro w540 vq540 hB540 hH540
              have hS540 := hS496.below hB540
              refine W_guard_yes rfl ?_
              refine W_ix rfl Go.Proofs.Try.underlying47 Ty.cells52 Ty.info52 rfl rfl (he531.el hS540.agree) hp531 rfl ?_
              refine W_nil ?_
              exact N_step rfl rfl (Below.refl _ _)
             ·
              intro w541 vq541 hB541 hH541
              have hS541 := hS496.below hB541
              refine W_guard_yes rfl ?_
              refine W_fld 32 rfl Ty.field52_1 rfl (he531.el hS541.agree) ?_
              refine W_nil ?_
              exact N_step rfl rfl (Below.refl _ _)
             ·
              intro w542 vq542 hB542 hH542
              have hS542 := hS496.below hB542
              refine W_guard_yes rfl ?_
              refine W_ld1 32 rfl Ty.cell49 rfl (he531.el hS542.agree) (by omega) rfl ?_
              refine W_nil ?_
              exact N_step rfl rfl (Below.refl _ _)
             ·
              intro w543 vq543 hB543 hH543
              have hS543 := hS496.below hB543
              refine W_guard_yes rfl ?_
              refine W_move rfl rfl ?_
              refine W_nil ?_
              exact N_step rfl rfl (Below.refl _ _)
             ·
              intro w544 vq544 hB544 hH544
              have hS544 := hS496.below hB544
              refine W_guard_yes rfl ?_
              refine W_ix rfl Go.Proofs.Try.underlying49 Ty.cells37 Ty.info37 rfl rfl (he533.el hS544.agree) hp533 rfl ?_
              refine W_nil ?_
              exact N_step rfl rfl (Below.refl _ _)
             ·
              intro w545 vq545 hB545 hH545
              have hS545 := hS496.below hB545
              refine W_guard_yes rfl ?_
              refine W_ldg 0 ((Loc.cells x506)) rfl Ty.agg37 Ty.size37 rfl (he533.el hS545.agree) (by omega) (fun q u h => sub_at (post := []) rfl h) ?_
              refine W_nil ?_
              exact N_step rfl rfl (Below.refl _ _)
             ·
              intro w546 vq546 hB546 hH546
              have hS546 := hS496.below hB546
              refine W_guard_yes rfl ?_
              refine W_move rfl rfl ?_
              refine W_nil ?_
              exact N_step rfl rfl (Below.refl _ _)
             ·
              intro w547 vq547 hB547 hH547
              have hS547 := hS496.below hB547
              refine W_guard_yes rfl ?_
              refine W_move rfl rfl ?_
              refine W_nil ?_
              exact N_step rfl rfl (Below.refl _ _)
             ·
              intro w548 vq548 hB548 hH548
              have hS548 := hS496.below hB548
              refine W_guard_yes rfl ?_
              refine W_ix rfl Go.Proofs.Try.underlying23 Ty.cells39 Ty.info39 rfl rfl (he535.below hB548) hp535 rfl ?_
              refine W_nil ?_
              exact N_step rfl rfl (Below.refl _ _)
             ·
              intro w549 vq549 hB549 hH549
              have hS549 := hS496.below hB549
              refine W_guard_yes rfl ?_
              refine W_fld 1 rfl Ty.field39_1 rfl (he535.below hB549) ?_
              refine W_nil ?_
              exact N_step rfl rfl (Below.refl _ _)
             ·
              intro w550 vq550 hB550 hH550
              have hS550 := hS496.below hB550
              refine W_guard_yes rfl ?_
              refine W_ldg 1 ((Loc.cells x508.loc)) rfl Ty.agg37 Ty.size37 rfl (he535.below hB550) (by omega) (fun q u h => sub_at (post := []) rfl h) ?_
              refine W_nil ?_
              exact N_step rfl rfl (Below.refl _ _)
             ·
              intro w551 vq551 hB551 hH551
              have hS551 := hS496.below hB551
              refine W_guard_yes rfl ?_
              have hy552 := hr510
              rw [only_t (by first | rfl | (rw [hb512]; first | done | rfl) | simp [hb512])] at hy552
              refine W_call rfl Ty.named24 rfl (cellarerkeep_Loc_ok hS551.agree hy552) ?_
              rintro v553 w553 ⟨Fr510, rfl, hT553⟩
              have hS553 := hS551.lent hT553
              refine W_nil ?_
              exact N_step rfl rfl hT553.below0
            intro w554 vq554 hB554 hH554
            have hS554 := hS496.below hB554
            refine W_pick_f rfl rfl rfl ?_
            refine W_assign rfl rfl ?_
            refine W_nil ?_
            exact N_join _ ⟨rfl, F496, (Frz.le.refl _), hS554⟩ ⟨rfl, rfl, rfl, rfl, rfl, rfl, (look_bool rfl (by first | rfl | (rw [hb512]; first | done | rfl) | simp [hb512])), rfl, trivial⟩
          rintro E w511 ⟨rfl, F511, le511, hS511⟩
          refine N_code ?_
          refine C_seq ?_
          obtain ⟨x555, hx555, H⟩ := bd_some H
          obtain ⟨x557, hx557, H⟩ := bd_some H
          obtain ⟨x559, hx559, H⟩ := bd_some H
          obtain ⟨r561, hr561, H⟩ := bd_some H
          obtain ⟨hp562, hy562⟩ := ix_some hx555
          obtain ⟨cs562, hr562, he562⟩ := (h0.mono ((((ler4.trans le358).trans le373).trans le496).trans le511)).at_ hy562
          obtain ⟨ue556_0, rfl, hle556_0, hue556_0⟩ := hr562
          replace he562 : Elf _ _ 33 _ _ := he562
          obtain ⟨hp563, hy563⟩ := ix_some hx557
          obtain ⟨cs563, hr563, he563⟩ := hue556_0.at_ hy563
          obtain rfl := hr563
          replace he563 : Elf _ _ 4 _ _ := he563
          obtain ⟨hp564, hy564⟩ := ix_some hx559
          obtain ⟨cs564, hr564, he564⟩ := hS511.rowAt (k := 1) rfl hy564
          obtain rfl := hr564
          replace he564 : El _ _ 5 _ _ := he564
          apply C_draw 13 [[], [], [0, 1], [2], [3], [], [4, 5], [6], [], [], [8, 9], [10], [11]] [.val (v0), .val (.int .i64 x365.want), .val (elp v0 (x365.want.toNat * 33)), .val (elp v0 ((x365.want.toNat * 33) + 32)), .val (ue556_0), .val (.int .i64 i498), .val (elp ue556_0 (i498.toNat * 4)), .val (.agg (Loc.cells x557).toArray), .val (ur4_0), .val (.int .i64 i359), .val (elp ur4_0 (i359.toNat * 5)), .val (elp ur4_0 ((i359.toNat * 5) + 1)), .val (.agg (Loc.cells x559.loc).toArray)] Ty.mixed rfl rfl (by kernel_rfl) (by kernel_rfl) rfl
          ·
           refine ⟨?_, ?_, ?_, ?_, ?_, ?_, ?_, ?_, ?_, ?_, ?_, ?_, ?_, trivial⟩
           ·
            intro w565 vq565 hB565 hH565
            have hS565 := hS511.below hB565
            refine W_move rfl rfl ?_
            refine W_nil ?_
            exact N_step rfl rfl (Below.refl _ _)
           ·
            intro w566 vq566 hB566 hH566
            have hS566 := hS511.below hB566
            refine W_move rfl rfl ?_
            refine W_nil ?_
            exact N_step rfl rfl (Below.refl _ _)
           ·
            intro w567 vq567 hB567 hH567
            have hS567 := hS511.below hB567
            refine W_ix rfl Go.Proofs.Try.underlying47 Ty.cells52 Ty.info52 rfl rfl (he562.el hS567.agree) hp562 rfl ?_
            refine W_nil ?_
            exact N_step rfl rfl (Below.refl _ _)
           ·
            intro w568 vq568 hB568 hH568
            have hS568 := hS511.below hB568
            refine W_fld 32 rfl Ty.field52_1 rfl (he562.el hS568.agree) ?_
            refine W_nil ?_
            exact N_step rfl rfl (Below.refl _ _)
           ·
            intro w569 vq569 hB569 hH569
            have hS569 := hS511.below hB569
            refine W_ld1 32 rfl Ty.cell49 rfl (he562.el hS569.agree) (by omega) rfl ?_
            refine W_nil ?_
            exact N_step rfl rfl (Below.refl _ _)
           ·
            intro w570 vq570 hB570 hH570
            have hS570 := hS511.below hB570
            refine W_move rfl rfl ?_
            refine W_nil ?_
            exact N_step rfl rfl (Below.refl _ _)
           ·
            intro w571 vq571 hB571 hH571
            have hS571 := hS511.below hB571
            refine W_ix rfl Go.Proofs.Try.underlying49 Ty.cells37 Ty.info37 rfl rfl (he563.el hS571.agree) hp563 rfl ?_
            refine W_nil ?_
            exact N_step rfl rfl (Below.refl _ _)
           ·
            intro w572 vq572 hB572 hH572
            have hS572 := hS511.below hB572
            refine W_ldg 0 ((Loc.cells x557)) rfl Ty.agg37 Ty.size37 rfl (he563.el hS572.agree) (by omega) (fun q u h => sub_at (post := []) rfl h) ?_
            refine W_nil ?_
            exact N_step rfl rfl (Below.refl _ _)
           ·
            intro w573 vq573 hB573 hH573
            have hS573 := hS511.below hB573
            refine W_move rfl rfl ?_
            refine W_nil ?_
            exact N_step rfl rfl (Below.refl _ _)
           ·
            intro w574 vq574 hB574 hH574
            have hS574 := hS511.below hB574
            refine W_move rfl rfl ?_
            refine W_nil ?_
            exact N_step rfl rfl (Below.refl _ _)
           ·
            intro w575 vq575 hB575 hH575
            have hS575 := hS511.below hB575
            refine W_ix rfl Go.Proofs.Try.underlying23 Ty.cells39 Ty.info39 rfl rfl (he564.below hB575) hp564 rfl ?_
            refine W_nil ?_
            exact N_step rfl rfl (Below.refl _ _)
           ·
            intro w576 vq576 hB576 hH576
            have hS576 := hS511.below hB576
            refine W_fld 1 rfl Ty.field39_1 rfl (he564.below hB576) ?_
            refine W_nil ?_
            exact N_step rfl rfl (Below.refl _ _)
           ·
            intro w577 vq577 hB577 hH577
            have hS577 := hS511.below hB577
            refine W_ldg 1 ((Loc.cells x559.loc)) rfl Ty.agg37 Ty.size37 rfl (he564.below hB577) (by omega) (fun q u h => sub_at (post := []) rfl h) ?_
            refine W_nil ?_
            exact N_step rfl rfl (Below.refl _ _)
          intro w578 vq578 hB578 hH578
          have hS578 := hS511.below hB578
          refine W_call rfl Ty.named31 rfl (plan_Ahead_ok hS578.agree hr561) ?_
          rintro v579 w579 ⟨Fr561, rfl, hT579⟩
          have hS579 := hS578.lent hT579
          refine W_nil ?_
          refine N_code ?_
          refine C_cond rfl (fun hc580 => ?_) (fun hc580 => ?_)
          ·
           rw [if_t hc580] at H
           refine C_seq ?_
           refine C_region ?_
           refine W_assign rfl rfl ?_
           refine W_nil ?_
           refine N_code ?_
           obtain rfl := Option.some.inj H
           refine C_ret rfl rfl ?_
           exact ⟨F511, rfl, hS579.pick [] (by decide)⟩
          ·
           rw [if_f hc580] at H
           refine C_skip ?_
           refine N_block ?_
           refine N_code ?_
           refine C_region ?_
           refine W_move rfl rfl ?_
           refine W_add rfl rfl rfl rfl ?_
           refine W_assign rfl rfl ?_
           refine W_nil ?_
           exact N_againM ((b497 || r510), wr (i498 + 1)) _ H ⟨F511, rfl, (le496.trans le511), hS579⟩ ⟨rfl, rfl, rfl, rfl, rfl, rfl, rfl, rfl, trivial⟩
         ·
          rw [if_f hc503] at H
          refine C_exit _ rfl ?_
          exact N_join _ ⟨b497, H, ⟨F496, rfl, le496, hS496⟩⟩ ⟨rfl, rfl, rfl, rfl, rfl, rfl, trivial⟩
       ·
        rintro E w493 ⟨b494, H, F493, rfl, le493, hS493⟩
        dsimp only [cellarerlaw21_PlanRises.k13] at H
        refine C_seq ?_
        refine C_region ?_
        refine W_move rfl rfl ?_
        refine W_not rfl rfl ?_
        refine W_nil ?_
        refine N_code ?_
        refine C_cond rfl (fun hc495 => ?_) (fun hc495 => ?_)
        ·
         rw [if_t hc495] at H
         refine C_seq ?_
         refine C_region ?_
         refine W_assign rfl rfl ?_
         refine W_nil ?_
         refine N_code ?_
         obtain rfl := Option.some.inj H
         refine C_ret rfl rfl ?_
         exact ⟨F493, rfl, hS493.pick [] (by decide)⟩
        ·
         rw [if_f hc495] at H
         refine C_skip ?_
         refine N_block ?_
         exact N_join _ ⟨(l360.set x365.want.toNat (wr (x488 + 1))), H, ⟨F493, rfl, (le373.trans le493), hS493⟩⟩ ⟨rfl, rfl, rfl, rfl, rfl, trivial⟩
     ·
      rintro E w363 ⟨l364, H, F363, rfl, le363, hS363⟩
      dsimp only [cellarerlaw21_PlanRises.k12] at H
      refine C_region ?_
      refine W_move rfl rfl ?_
      refine W_add rfl rfl rfl rfl ?_
      refine W_assign rfl rfl ?_
      refine W_nil ?_
      exact N_againM (wr (i359 + 1), l364) _ H ⟨F363, rfl, (le358.trans le363), hS363⟩ ⟨rfl, rfl, rfl, rfl, rfl, trivial⟩
    ·
     rw [if_f hc362] at H
     refine C_exit _ rfl ?_
     exact N_join _ ⟨l360, H, ⟨F358, rfl, le358, hS358⟩⟩ ⟨rfl, rfl, rfl, rfl, trivial⟩
  ·
   rintro E w8 ⟨l9, H, F8, rfl, le8, hS8⟩
   dsimp only [cellarerlaw21_PlanRises.k1] at H
   refine C_seq_join (fun E wq => ∃ l11 : List Int, cellarerlaw21_PlanRises.k2 r4 l11 = some r ∧ ∃ (F10 : Frz), E = [(3, ur4_0), (5, v7)] ∧ F8.le F10 ∧ St [] w F F10 [.row tI 3 v7 l11, .row Read.t 39 ur4_0 r4.1] wq) ?_ ?_
   ·
    refine C_seq ?_
    refine C_region ?_
    refine W_assign rfl rfl ?_
    refine W_nil ?_
    refine N_code ?_
    refine C_block ?_
    refine C_loopM (fun (s : Int × (List Int)) E wq => ∃ (F88 : Frz), E = [(0, v0), (3, ur4_0), (4, ur4_1), (5, v7), (10, .int .i64 s.1)] ∧ F8.le F88 ∧ St [] w F F88 [.row tI 3 v7 s.2, .row Read.t 39 ur4_0 r4.1, .row tI 3 ur4_1 r4.2] wq) H ?_ ?_
    ·
     exact ⟨_, ⟨F8, rfl, (Frz.le.refl _), hS8⟩, ⟨rfl, rfl, rfl, rfl, rfl, trivial⟩⟩
    ·
     rintro rec91 ⟨i89, l90⟩ E w88 hI H
     try dsimp only at hI
     obtain ⟨F88, rfl, le88, hS88⟩ := hI
     dsimp only [cellarerlaw21_PlanRises.l10] at H
     refine C_seq ?_
     refine C_seq ?_
     refine C_region ?_
     refine W_move rfl rfl ?_
     refine W_move rfl rfl ?_
     refine W_lenv rfl Go.Proofs.Try.underlying22 rfl (hS88.rowLn (k := 2) rfl) ?_
     refine W_lss rfl rfl rfl ?_
     refine W_nil ?_
     refine N_code ?_
     refine C_cond rfl (fun hc92 => ?_) (fun hc92 => ?_)
     ·
      rw [if_t hc92] at H
      refine C_skip ?_
      refine N_code ?_
      refine C_seq ?_
      refine C_block ?_
      refine C_seq ?_
      refine C_seq ?_
      obtain ⟨x93, hx93, H⟩ := bd_some H
      obtain ⟨x95, hx95, H⟩ := bd_some H
      obtain ⟨x97, hx97, H⟩ := bd_some H
      obtain ⟨x99, hx99, H⟩ := bd_some H
      obtain ⟨x101, hx101, H⟩ := bd_some H
      obtain ⟨x103, hx103, H⟩ := bd_some H
      refine C_join (fun E wq => E = [(0, v0), (3, ur4_0), (4, ur4_1), (5, v7), (10, .int .i64 i89), (159, .bool (((decide (x93 < 0) || decide ((x0.length : Int) ≤ x95)) || decide (0 < (x99.locs.length : Int))) || (decide (0 < i89) && decide (x101 ≤ x103))))] ∧ ∃ F105 : Frz, F88.le F105 ∧ St [] w F F105 [.row tI 3 v7 l90, .row Read.t 39 ur4_0 r4.1, .row tI 3 ur4_1 r4.2] wq) ?_ ?_
      ·
       rcases Bool.eq_false_or_eq_true (decide (x93 < 0)) with hb106 | hb106
       ·
        obtain ⟨hp107, hy107⟩ := ix_some hx93
        obtain ⟨cs107, hr107, he107⟩ := hS88.rowAt (k := 2) rfl hy107
        obtain rfl := hr107
        replace he107 : El _ _ 1 _ _ := he107
        apply C_draw 41 [[], [], [0, 1], [2], [3], [4], [5], [5], [6, 7, 5], [8, 5], [5], [10, 5], [9, 11, 5], [5, 12], [13], [14], [14], [14], [16, 17, 14], [18, 14], [15, 19, 14], [20, 14], [21, 14], [22, 14], [23, 14], [14, 24], [25], [26], [27, 26], [28, 26], [29], [29], [30, 31, 29], [32, 29], [29], [29], [35, 29], [34, 36, 29], [37, 29], [33, 38, 29], [29, 39, 26]] [.val (ur4_1), .val (.int .i64 i89), .val (elp ur4_1 (i89.toNat * 1)), .val (.int .i64 x93), .val (.bool (decide (x93 < 0))), .val (.bool true), .val undef, .val undef, .val undef, .val undef, .val undef, .val undef, .val undef, .val (.bool true), .val (.bool true), .val undef, .val undef, .val undef, .val undef, .val undef, .val undef, .val undef, .val undef, .val undef, .val undef, .val (.bool true), .val (.bool true), .val undef, .val undef, .val undef, .val undef, .val undef, .val undef, .val undef, .val undef, .val undef, .val undef, .val undef, .val undef, .val undef, .val undef] Ty.mixed rfl rfl (by kernel_rfl) (by kernel_rfl) rfl
        ·
         refine ⟨?_, ?_, ?_, ?_, ?_, ?_, ?_, ?_, ?_, ?_, ?_, ?_, ?_, ?_, ?_, ?_, ?_, ?_, ?_, ?_, ?_, ?_, ?_, ?_, ?_, ?_, ?_, ?_, ?_, ?_, ?_, ?_, ?_, ?_, ?_, ?_, ?_, ?_, ?_, ?_, ?_, trivial⟩
         ·
          intro w108 vq108 hB108 hH108
          have hS108 := hS88.below hB108
          refine W_move rfl rfl ?_
          refine W_nil ?_
          exact N_step rfl rfl (Below.refl _ _)
         ·
          intro w109 vq109 hB109 hH109
          have hS109 := hS88.below hB109
          refine W_move rfl rfl ?_
          refine W_nil ?_
          exact N_step rfl rfl (Below.refl _ _)
         ·
          intro w110 vq110 hB110 hH110
          have hS110 := hS88.below hB110
          refine W_ix rfl Go.Proofs.Try.underlying22 Ty.cells3 Ty.info3 rfl rfl (he107.below hB110) hp107 rfl ?_
          refine W_nil ?_
          exact N_step rfl rfl (Below.refl _ _)
         ·
          intro w111 vq111 hB111 hH111
          have hS111 := hS88.below hB111
          refine W_ld1 0 rfl Ty.cell3 rfl (he107.below hB111) (by omega) rfl ?_
          refine W_nil ?_
          exact N_step rfl rfl (Below.refl _ _)
         ·
          intro w112 vq112 hB112 hH112
          have hS112 := hS88.below hB112
          refine W_lss rfl rfl rfl ?_
          refine W_nil ?_
          exact N_step rfl rfl (Below.refl _ _)
         ·
          intro w113 vq113 hB113 hH113
          have hS113 := hS88.below hB113
          refine W_move rfl rfl ?_
          refine W_nil ?_
          exact N_step rfl (congrArg Value.bool hb106) (Below.refl _ _)
         ·
          intro w114 vq114 hB114 hH114
          have hS114 := hS88.below hB114
          refine W_guard_no rfl rfl rfl rfl rfl ?_
          refine W_nil ?_
          exact N_step rfl rfl (Below.refl _ _)
         ·
          intro w115 vq115 hB115 hH115
          have hS115 := hS88.below hB115
          refine W_guard_no rfl rfl rfl rfl rfl ?_
          refine W_nil ?_
          exact N_step rfl rfl (Below.refl _ _)
         ·
          intro w116 vq116 hB116 hH116
          have hS116 := hS88.below hB116
          refine W_guard_no rfl rfl rfl rfl rfl ?_
          refine W_nil ?_
          exact N_step rfl rfl (Below.refl _ _)
         ·
          intro w117 vq117 hB117 hH117
          have hS117 := hS88.below hB117
          refine W_guard_no rfl rfl rfl rfl rfl ?_
          refine W_nil ?_
          exact N_step rfl rfl (Below.refl _ _)
         ·
          intro w118 vq118 hB118 hH118
          have hS118 := hS88.below hB118
          refine W_guard_no rfl rfl rfl rfl rfl ?_
          refine W_nil ?_
          exact N_step rfl rfl (Below.refl _ _)
         ·
          intro w119 vq119 hB119 hH119
          have hS119 := hS88.below hB119
          refine W_guard_no rfl rfl rfl rfl rfl ?_
          refine W_nil ?_
          exact N_step rfl rfl (Below.refl _ _)
         ·
          intro w120 vq120 hB120 hH120
          have hS120 := hS88.below hB120
          refine W_guard_no rfl rfl rfl rfl rfl ?_
          refine W_nil ?_
          exact N_step rfl rfl (Below.refl _ _)
         ·
          intro w121 vq121 hB121 hH121
          have hS121 := hS88.below hB121
          refine W_pick_t rfl rfl rfl ?_
          refine W_nil ?_
          exact N_step rfl rfl (Below.refl _ _)
         ·
          intro w122 vq122 hB122 hH122
          have hS122 := hS88.below hB122
          refine W_move rfl rfl ?_
          refine W_nil ?_
          exact N_step rfl rfl (Below.refl _ _)
         ·
          intro w123 vq123 hB123 hH123
          have hS123 := hS88.below hB123
          refine W_guard_no rfl rfl rfl rfl rfl ?_
          refine W_nil ?_
          exact N_step rfl rfl (Below.refl _ _)
         ·
          intro w124 vq124 hB124 hH124
          have hS124 := hS88.below hB124
          refine W_guard_no rfl rfl rfl rfl rfl ?_
          refine W_nil ?_
          exact N_step rfl rfl (Below.refl _ _)
         ·
          intro w125 vq125 hB125 hH125
          have hS125 := hS88.below hB125
          refine W_guard_no rfl rfl rfl rfl rfl ?_
          refine W_nil ?_
          exact N_step rfl rfl (Below.refl _ _)
         ·
          intro w126 vq126 hB126 hH126
          have hS126 := hS88.below hB126
          refine W_guard_no rfl rfl rfl rfl rfl ?_
          refine W_nil ?_
          exact N_step rfl rfl (Below.refl _ _)
         ·
          intro w127 vq127 hB127 hH127
          have hS127 := hS88.below hB127
          refine W_guard_no rfl rfl rfl rfl rfl ?_
          refine W_nil ?_
          exact N_step rfl rfl (Below.refl _ _)
         ·
          intro w128 vq128 hB128 hH128
          have hS128 := hS88.below hB128
          refine W_guard_no rfl rfl rfl rfl rfl ?_
          refine W_nil ?_
          exact N_step rfl rfl (Below.refl _ _)
         ·
          intro w129 vq129 hB129 hH129
          have hS129 := hS88.below hB129
          refine W_guard_no rfl rfl rfl rfl rfl ?_
          refine W_nil ?_
          exact N_step rfl rfl (Below.refl _ _)
         ·
          intro w130 vq130 hB130 hH130
          have hS130 := hS88.below hB130
          refine W_guard_no rfl rfl rfl rfl rfl ?_
          refine W_nil ?_
          exact N_step rfl rfl (Below.refl _ _)
         ·
          intro w131 vq131 hB131 hH131
          have hS131 := hS88.below hB131
          refine W_guard_no rfl rfl rfl rfl rfl ?_
          refine W_nil ?_
          exact N_step rfl rfl (Below.refl _ _)
         ·
          intro w132 vq132 hB132 hH132
          have hS132 := hS88.below hB132
          refine W_guard_no rfl rfl rfl rfl rfl ?_
          refine W_nil ?_
          exact N_step rfl rfl (Below.refl _ _)
         ·
          intro w133 vq133 hB133 hH133
          have hS133 := hS88.below hB133
          refine W_pick_t rfl rfl rfl ?_
          refine W_nil ?_
          exact N_step rfl rfl (Below.refl _ _)
         ·
          intro w134 vq134 hB134 hH134
          have hS134 := hS88.below hB134
          refine W_move rfl rfl ?_
          refine W_nil ?_
          exact N_step rfl rfl (Below.refl _ _)
         ·
          intro w135 vq135 hB135 hH135
          have hS135 := hS88.below hB135
          refine W_guard_no rfl rfl rfl rfl rfl ?_
          refine W_nil ?_
          exact N_step rfl rfl (Below.refl _ _)
         ·
          intro w136 vq136 hB136 hH136
          have hS136 := hS88.below hB136
          refine W_guard_no rfl rfl rfl rfl rfl ?_
          refine W_nil ?_
          exact N_step rfl rfl (Below.refl _ _)
         ·
          intro w137 vq137 hB137 hH137
          have hS137 := hS88.below hB137
          refine W_guard_no rfl rfl rfl rfl rfl ?_
          refine W_nil ?_
          exact N_step rfl rfl (Below.refl _ _)
         ·
          intro w138 vq138 hB138 hH138
          have hS138 := hS88.below hB138
          refine W_guard_un rfl rfl rfl rfl ?_
          refine W_nil ?_
          exact N_step rfl rfl (Below.refl _ _)
         ·
          intro w139 vq139 hB139 hH139
          have hS139 := hS88.below hB139
          refine W_guard_un rfl rfl rfl rfl ?_
          refine W_nil ?_
          exact N_step rfl rfl (Below.refl _ _)
         ·
          intro w140 vq140 hB140 hH140
          have hS140 := hS88.below hB140
          refine W_guard_un rfl rfl rfl rfl ?_
          refine W_nil ?_
          exact N_step rfl rfl (Below.refl _ _)
         ·
          intro w141 vq141 hB141 hH141
          have hS141 := hS88.below hB141
          refine W_guard_un rfl rfl rfl rfl ?_
          refine W_nil ?_
          exact N_step rfl rfl (Below.refl _ _)
         ·
          intro w142 vq142 hB142 hH142
          have hS142 := hS88.below hB142
          refine W_guard_un rfl rfl rfl rfl ?_
          refine W_nil ?_
          exact N_step rfl rfl (Below.refl _ _)
         ·
          intro w143 vq143 hB143 hH143
          have hS143 := hS88.below hB143
          refine W_guard_un rfl rfl rfl rfl ?_
          refine W_nil ?_
          exact N_step rfl rfl (Below.refl _ _)
         ·
          intro w144 vq144 hB144 hH144
          have hS144 := hS88.below hB144
          refine W_guard_un rfl rfl rfl rfl ?_
          refine W_nil ?_
          exact N_step rfl rfl (Below.refl _ _)
         ·
          intro w145 vq145 hB145 hH145
          have hS145 := hS88.below hB145
          refine W_guard_un rfl rfl rfl rfl ?_
          refine W_nil ?_
          exact N_step rfl rfl (Below.refl _ _)
         ·
          intro w146 vq146 hB146 hH146
          have hS146 := hS88.below hB146
          refine W_guard_un rfl rfl rfl rfl ?_
          refine W_nil ?_
          exact N_step rfl rfl (Below.refl _ _)
         ·
          intro w147 vq147 hB147 hH147
          have hS147 := hS88.below hB147
          refine W_guard_un rfl rfl rfl rfl ?_
          refine W_nil ?_
          exact N_step rfl rfl (Below.refl _ _)
         ·
          intro w148 vq148 hB148 hH148
          have hS148 := hS88.below hB148
          refine W_guard_no rfl rfl rfl rfl rfl ?_
          refine W_nil ?_
          exact N_step rfl rfl (Below.refl _ _)
        intro w149 vq149 hB149 hH149
        have hS149 := hS88.below hB149
        refine W_pick_t rfl rfl rfl ?_
        refine W_nil ?_
        exact N_join _ ⟨rfl, F88, (Frz.le.refl _), hS149⟩ ⟨rfl, rfl, rfl, rfl, rfl, (look_bool rfl (by first | rfl | (rw [hb106]; first | done | rfl) | simp [hb106])), trivial⟩
       ·
        rcases Bool.eq_false_or_eq_true (decide ((x0.length : Int) ≤ x95)) with hb150 | hb150
        ·
         obtain ⟨hp151, hy151⟩ := ix_some hx93
         obtain ⟨cs151, hr151, he151⟩ := hS88.rowAt (k := 2) rfl hy151
         obtain rfl := hr151
         replace he151 : El _ _ 1 _ _ := he151
         have hy152 := hx95
         rw [only_t (by first | rfl | (rw [hb106]; first | done | rfl) | simp [hb106, hb150])] at hy152
         obtain ⟨hp153, hy153⟩ := ix_some hy152
         obtain ⟨cs153, hr153, he153⟩ := hS88.rowAt (k := 2) rfl hy153
         obtain rfl := hr153
         replace he153 : El _ _ 1 _ _ := he153
         apply C_draw 41 [[], [], [0, 1], [2], [3], [4], [5], [5], [6, 7, 5], [8, 5], [5], [10, 5], [9, 11, 5], [5, 12], [13], [14], [14], [14], [16, 17, 14], [18, 14], [15, 19, 14], [20, 14], [21, 14], [22, 14], [23, 14], [14, 24], [25], [26], [27, 26], [28, 26], [29], [29], [30, 31, 29], [32, 29], [29], [29], [35, 29], [34, 36, 29], [37, 29], [33, 38, 29], [29, 39, 26]] [.val (ur4_1), .val (.int .i64 i89), .val (elp ur4_1 (i89.toNat * 1)), .val (.int .i64 x93), .val (.bool (decide (x93 < 0))), .val (.bool false), .val (ur4_1), .val (.int .i64 i89), .val (elp ur4_1 (i89.toNat * 1)), .val (.int .i64 x95), .val (v0), .val (.int .i64 (x0.length : Int)), .val (.bool (decide ((x0.length : Int) ≤ x95))), .val (.bool (decide ((x0.length : Int) ≤ x95))), .val (.bool true), .val undef, .val undef, .val undef, .val undef, .val undef, .val undef, .val undef, .val undef, .val undef, .val undef, .val (.bool true), .val (.bool true), .val undef, .val undef, .val undef, .val undef, .val undef, .val undef, .val undef, .val undef, .val undef, .val undef, .val undef, .val undef, .val undef, .val undef] Ty.mixed rfl rfl (by kernel_rfl) (by kernel_rfl) rfl
         ·
          refine ⟨?_, ?_, ?_, ?_, ?_, ?_, ?_, ?_, ?_, ?_, ?_, ?_, ?_, ?_, ?_, ?_, ?_, ?_, ?_, ?_, ?_, ?_, ?_, ?_, ?_, ?_, ?_, ?_, ?_, ?_, ?_, ?_, ?_, ?_, ?_, ?_, ?_, ?_, ?_, ?_, ?_, trivial⟩
          ·
           intro w154 vq154 hB154 hH154
           have hS154 := hS88.below hB154
           refine W_move rfl rfl ?_
           refine W_nil ?_
           exact N_step rfl rfl (Below.refl _ _)
          ·
           intro w155 vq155 hB155 hH155
           have hS155 := hS88.below hB155
           refine W_move rfl rfl ?_
           refine W_nil ?_
           exact N_step rfl rfl (Below.refl _ _)
          ·
           intro w156 vq156 hB156 hH156
           have hS156 := hS88.below hB156
           refine W_ix rfl Go.Proofs.Try.underlying22 Ty.cells3 Ty.info3 rfl rfl (he151.below hB156) hp151 rfl ?_
           refine W_nil ?_
           exact N_step rfl rfl (Below.refl _ _)
          ·
           intro w157 vq157 hB157 hH157
           have hS157 := hS88.below hB157
           refine W_ld1 0 rfl Ty.cell3 rfl (he151.below hB157) (by omega) rfl ?_
           refine W_nil ?_
           exact N_step rfl rfl (Below.refl _ _)
          ·
           intro w158 vq158 hB158 hH158
           have hS158 := hS88.below hB158
           refine W_lss rfl rfl rfl ?_
           refine W_nil ?_
           exact N_step rfl rfl (Below.refl _ _)
          ·
           intro w159 vq159 hB159 hH159
           have hS159 := hS88.below hB159
           refine W_move rfl rfl ?_
           refine W_nil ?_
           exact N_step rfl (congrArg Value.bool hb106) (Below.refl _ _)
          ·
           intro w160 vq160 hB160 hH160
           have hS160 := hS88.below hB160
           refine W_guard_yes rfl ?_
           refine W_move rfl rfl ?_
           refine W_nil ?_
           exact N_step rfl rfl (Below.refl _ _)
          ·
           intro w161 vq161 hB161 hH161
           have hS161 := hS88.below hB161
           refine W_guard_yes rfl ?_
           refine W_move rfl rfl ?_
           refine W_nil ?_
           exact N_step rfl rfl (Below.refl _ _)
          ·
           intro w162 vq162 hB162 hH162
           have hS162 := hS88.below hB162
           refine W_guard_yes rfl ?_
           refine W_ix rfl Go.Proofs.Try.underlying22 Ty.cells3 Ty.info3 rfl rfl (he153.below hB162) hp153 rfl ?_
           refine W_nil ?_
           exact N_step rfl rfl (Below.refl _ _)
          ·
           intro w163 vq163 hB163 hH163
           have hS163 := hS88.below hB163
           refine W_guard_yes rfl ?_
           refine W_ld1 0 rfl Ty.cell3 rfl (he153.below hB163) (by omega) rfl ?_
           refine W_nil ?_
           exact N_step rfl rfl (Below.refl _ _)
          ·
           intro w164 vq164 hB164 hH164
           have hS164 := hS88.below hB164
           refine W_guard_yes rfl ?_
           refine W_move rfl rfl ?_
           refine W_nil ?_
           exact N_step rfl rfl (Below.refl _ _)
          ·
           intro w165 vq165 hB165 hH165
           have hS165 := hS88.below hB165
           refine W_guard_yes rfl ?_
           refine W_lenv rfl Go.Proofs.Try.underlying47 rfl h0.ln ?_
           refine W_nil ?_
           exact N_step rfl rfl (Below.refl _ _)
          ·
           intro w166 vq166 hB166 hH166
           have hS166 := hS88.below hB166
           refine W_guard_yes rfl ?_
           refine W_geq rfl rfl rfl ?_
           refine W_nil ?_
           exact N_step rfl rfl (Below.refl _ _)
          ·
           intro w167 vq167 hB167 hH167
           have hS167 := hS88.below hB167
           refine W_pick_f rfl rfl rfl ?_
           refine W_nil ?_
           exact N_step rfl rfl (Below.refl _ _)
          ·
           intro w168 vq168 hB168 hH168
           have hS168 := hS88.below hB168
           refine W_move rfl rfl ?_
           refine W_nil ?_
           exact N_step rfl (congrArg Value.bool hb150) (Below.refl _ _)
          ·
           intro w169 vq169 hB169 hH169
           have hS169 := hS88.below hB169
           refine W_guard_no rfl rfl rfl rfl rfl ?_
           refine W_nil ?_
           exact N_step rfl rfl (Below.refl _ _)
          ·
           intro w170 vq170 hB170 hH170
           have hS170 := hS88.below hB170
           refine W_guard_no rfl rfl rfl rfl rfl ?_
           refine W_nil ?_
           exact N_step rfl rfl (Below.refl _ _)
          ·
           intro w171 vq171 hB171 hH171
           have hS171 := hS88.below hB171
           refine W_guard_no rfl rfl rfl rfl rfl ?_
           refine W_nil ?_
           exact N_step rfl rfl (Below.refl _ _)
          ·
           intro w172 vq172 hB172 hH172
           have hS172 := hS88.below hB172
           refine W_guard_no rfl rfl rfl rfl rfl ?_
           refine W_nil ?_
           exact N_step rfl rfl (Below.refl _ _)
          ·
           intro w173 vq173 hB173 hH173
           have hS173 := hS88.below hB173
           refine W_guard_no rfl rfl rfl rfl rfl ?_
           refine W_nil ?_
           exact N_step rfl rfl (Below.refl _ _)
          ·
           intro w174 vq174 hB174 hH174
           have hS174 := hS88.below hB174
           refine W_guard_no rfl rfl rfl rfl rfl ?_
           refine W_nil ?_
           exact N_step rfl rfl (Below.refl _ _)
          ·
           intro w175 vq175 hB175 hH175
           have hS175 := hS88.below hB175
           refine W_guard_no rfl rfl rfl rfl rfl ?_
           refine W_nil ?_
           exact N_step rfl rfl (Below.refl _ _)
          ·
           intro w176 vq176 hB176 hH176
           have hS176 := hS88.below hB176
           refine W_guard_no rfl rfl rfl rfl rfl ?_
           refine W_nil ?_
           exact N_step rfl rfl (Below.refl _ _)
          ·
           intro w177 vq177 hB177 hH177
           have hS177 := hS88.below hB177
           refine W_guard_no rfl rfl rfl rfl rfl ?_
           refine W_nil ?_
           exact N_step rfl rfl (Below.refl _ _)
          ·
           intro w178 vq178 hB178 hH178
           have hS178 := hS88.below hB178
           refine W_guard_no rfl rfl rfl rfl rfl ?_
           refine W_nil ?_
           exact N_step rfl rfl (Below.refl _ _)
          ·
           intro w179 vq179 hB179 hH179
           have hS179 := hS88.below hB179
           refine W_pick_t rfl rfl rfl ?_
           refine W_nil ?_
           exact N_step rfl rfl (Below.refl _ _)
          ·
           intro w180 vq180 hB180 hH180
           have hS180 := hS88.below hB180
           refine W_move rfl rfl ?_
           refine W_nil ?_
           exact N_step rfl rfl (Below.refl _ _)
          ·
           intro w181 vq181 hB181 hH181
           have hS181 := hS88.below hB181
           refine W_guard_no rfl rfl rfl rfl rfl ?_
           refine W_nil ?_
           exact N_step rfl rfl (Below.refl _ _)
          ·
           intro w182 vq182 hB182 hH182
           have hS182 := hS88.below hB182
           refine W_guard_no rfl rfl rfl rfl rfl ?_
           refine W_nil ?_
           exact N_step rfl rfl (Below.refl _ _)
          ·
           intro w183 vq183 hB183 hH183
           have hS183 := hS88.below hB183
           refine W_guard_no rfl rfl rfl rfl rfl ?_
           refine W_nil ?_
           exact N_step rfl rfl (Below.refl _ _)
          ·
           intro w184 vq184 hB184 hH184
           have hS184 := hS88.below hB184
           refine W_guard_un rfl rfl rfl rfl ?_
           refine W_nil ?_
           exact N_step rfl rfl (Below.refl _ _)
          ·
           intro w185 vq185 hB185 hH185
           have hS185 := hS88.below hB185
           refine W_guard_un rfl rfl rfl rfl ?_
           refine W_nil ?_
           exact N_step rfl rfl (Below.refl _ _)
          ·
           intro w186 vq186 hB186 hH186
           have hS186 := hS88.below hB186
           refine W_guard_un rfl rfl rfl rfl ?_
           refine W_nil ?_
           exact N_step rfl rfl (Below.refl _ _)
          ·
           intro w187 vq187 hB187 hH187
           have hS187 := hS88.below hB187
           refine W_guard_un rfl rfl rfl rfl ?_
           refine W_nil ?_
           exact N_step rfl rfl (Below.refl _ _)
          ·
           intro w188 vq188 hB188 hH188
           have hS188 := hS88.below hB188
           refine W_guard_un rfl rfl rfl rfl ?_
           refine W_nil ?_
           exact N_step rfl rfl (Below.refl _ _)
          ·
           intro w189 vq189 hB189 hH189
           have hS189 := hS88.below hB189
           refine W_guard_un rfl rfl rfl rfl ?_
           refine W_nil ?_
           exact N_step rfl rfl (Below.refl _ _)
          ·
           intro w190 vq190 hB190 hH190
           have hS190 := hS88.below hB190
           refine W_guard_un rfl rfl rfl rfl ?_
           refine W_nil ?_
           exact N_step rfl rfl (Below.refl _ _)
          ·
           intro w191 vq191 hB191 hH191
           have hS191 := hS88.below hB191
           refine W_guard_un rfl rfl rfl rfl ?_
           refine W_nil ?_
           exact N_step rfl rfl (Below.refl _ _)
          ·
           intro w192 vq192 hB192 hH192
           have hS192 := hS88.below hB192
           refine W_guard_un rfl rfl rfl rfl ?_
           refine W_nil ?_
           exact N_step rfl rfl (Below.refl _ _)
          ·
           intro w193 vq193 hB193 hH193
           have hS193 := hS88.below hB193
           refine W_guard_un rfl rfl rfl rfl ?_
           refine W_nil ?_
           exact N_step rfl rfl (Below.refl _ _)
          ·
           intro w194 vq194 hB194 hH194
           have hS194 := hS88.below hB194
           refine W_guard_no rfl rfl rfl rfl rfl ?_
           refine W_nil ?_
           exact N_step rfl rfl (Below.refl _ _)
         intro w195 vq195 hB195 hH195
         have hS195 := hS88.below hB195
         refine W_pick_t rfl rfl rfl ?_
         refine W_nil ?_
         exact N_join _ ⟨rfl, F88, (Frz.le.refl _), hS195⟩ ⟨rfl, rfl, rfl, rfl, rfl, (look_bool rfl (by first | rfl | (rw [hb150, hb106]; first | done | rfl) | simp [hb106, hb150])), trivial⟩
        ·
         rcases Bool.eq_false_or_eq_true (decide (0 < (x99.locs.length : Int))) with hb196 | hb196
         ·
          obtain ⟨hp197, hy197⟩ := ix_some hx93
          obtain ⟨cs197, hr197, he197⟩ := hS88.rowAt (k := 2) rfl hy197
          obtain rfl := hr197
          replace he197 : El _ _ 1 _ _ := he197
          have hy198 := hx95
          rw [only_t (by first | rfl | (rw [hb106]; first | done | rfl) | simp [hb106, hb150, hb196])] at hy198
          obtain ⟨hp199, hy199⟩ := ix_some hy198
          obtain ⟨cs199, hr199, he199⟩ := hS88.rowAt (k := 2) rfl hy199
          obtain rfl := hr199
          replace he199 : El _ _ 1 _ _ := he199
          have hy200 := hx97
          rw [only_t (by first | rfl | (rw [hb150, hb106]; first | done | rfl) | simp [hb106, hb150, hb196])] at hy200
          obtain ⟨hp201, hy201⟩ := ix_some hy200
          obtain ⟨cs201, hr201, he201⟩ := hS88.rowAt (k := 2) rfl hy201
          obtain rfl := hr201
          replace he201 : El _ _ 1 _ _ := he201
          have hy202 := hx99
          rw [only_t (by first | rfl | (rw [hb150, hb106]; first | done | rfl) | simp [hb106, hb150, hb196])] at hy202
          obtain ⟨hp203, hy203⟩ := ix_some hy202
          obtain ⟨cs203, hr203, he203⟩ := (h0.mono ((ler4.trans le8).trans le88)).at_ hy203
          obtain ⟨ue100_0, rfl, hle100_0, hue100_0⟩ := hr203
          replace he203 : Elf _ _ 33 _ _ := he203
          apply C_draw 41 [[], [], [0, 1], [2], [3], [4], [5], [5], [6, 7, 5], [8, 5], [5], [10, 5], [9, 11, 5], [5, 12], [13], [14], [14], [14], [16, 17, 14], [18, 14], [15, 19, 14], [20, 14], [21, 14], [22, 14], [23, 14], [14, 24], [25], [26], [27, 26], [28, 26], [29], [29], [30, 31, 29], [32, 29], [29], [29], [35, 29], [34, 36, 29], [37, 29], [33, 38, 29], [29, 39, 26]] [.val (ur4_1), .val (.int .i64 i89), .val (elp ur4_1 (i89.toNat * 1)), .val (.int .i64 x93), .val (.bool (decide (x93 < 0))), .val (.bool false), .val (ur4_1), .val (.int .i64 i89), .val (elp ur4_1 (i89.toNat * 1)), .val (.int .i64 x95), .val (v0), .val (.int .i64 (x0.length : Int)), .val (.bool (decide ((x0.length : Int) ≤ x95))), .val (.bool (decide ((x0.length : Int) ≤ x95))), .val (.bool false), .val (v0), .val (ur4_1), .val (.int .i64 i89), .val (elp ur4_1 (i89.toNat * 1)), .val (.int .i64 x97), .val (elp v0 (x97.toNat * 33)), .val (elp v0 ((x97.toNat * 33) + 32)), .val (ue100_0), .val (.int .i64 (x99.locs.length : Int)), .val (.bool (decide (0 < (x99.locs.length : Int)))), .val (.bool (decide (0 < (x99.locs.length : Int)))), .val (.bool true), .val undef, .val undef, .val undef, .val undef, .val undef, .val undef, .val undef, .val undef, .val undef, .val undef, .val undef, .val undef, .val undef, .val undef] Ty.mixed rfl rfl (by kernel_rfl) (by kernel_rfl) rfl
          ·
           refine ⟨?_, ?_, ?_, ?_, ?_, ?_, ?_, ?_, ?_, ?_, ?_, ?_, ?_, ?_, ?_, ?_, ?_, ?_, ?_, ?_, ?_, ?_, ?_, ?_, ?_, ?_, ?_, ?_, ?_, ?_, ?_, ?_, ?_, ?_, ?_, ?_, ?_, ?_, ?_, ?_, ?_, trivial⟩
           ·
            intro w204 vq204 hB204 hH204
            have hS204 := hS88.below hB204
            refine W_move rfl rfl ?_
            refine W_nil ?_
            exact N_step rfl rfl (Below.refl _ _)
           ·
            intro w205 vq205 hB205 hH205
            have hS205 := hS88.below hB205
            refine W_move rfl rfl ?_
            refine W_nil ?_
            exact N_step rfl rfl (Below.refl _ _)
           ·
            intro w206 vq206 hB206 hH206
            have hS206 := hS88.below hB206
            refine W_ix rfl Go.Proofs.Try.underlying22 Ty.cells3 Ty.info3 rfl rfl (he197.below hB206) hp197 rfl ?_
            refine W_nil ?_
            exact N_step rfl rfl (Below.refl _ _)
           ·
            intro w207 vq207 hB207 hH207
            have hS207 := hS88.below hB207
            refine W_ld1 0 rfl Ty.cell3 rfl (he197.below hB207) (by omega) rfl ?_
            refine W_nil ?_
            exact N_step rfl rfl (Below.refl _ _)
           ·
            intro w208 vq208 hB208 hH208
            have hS208 := hS88.below hB208
            refine W_lss rfl rfl rfl ?_
            refine W_nil ?_
            exact N_step rfl rfl (Below.refl _ _)
           ·
            intro w209 vq209 hB209 hH209
            have hS209 := hS88.below hB209
            refine W_move rfl rfl ?_
            refine W_nil ?_
            exact N_step rfl (congrArg Value.bool hb106) (Below.refl _ _)
           ·
            intro w210 vq210 hB210 hH210
            have hS210 := hS88.below hB210
            refine W_guard_yes rfl ?_
            refine W_move rfl rfl ?_
            refine W_nil ?_
            exact N_step rfl rfl (Below.refl _ _)
           ·
            intro w211 vq211 hB211 hH211
            have hS211 := hS88.below hB211
            refine W_guard_yes rfl ?_
            refine W_move rfl rfl ?_
            refine W_nil ?_
            exact N_step rfl rfl (Below.refl _ _)
           ·
            intro w212 vq212 hB212 hH212
            have hS212 := hS88.below hB212
            refine W_guard_yes rfl ?_
            refine W_ix rfl Go.Proofs.Try.underlying22 Ty.cells3 Ty.info3 rfl rfl (he199.below hB212) hp199 rfl ?_
            refine W_nil ?_
            exact N_step rfl rfl (Below.refl _ _)
           ·
            intro w213 vq213 hB213 hH213
            have hS213 := hS88.below hB213
            refine W_guard_yes rfl ?_
            refine W_ld1 0 rfl Ty.cell3 rfl (he199.below hB213) (by omega) rfl ?_
            refine W_nil ?_
            exact N_step rfl rfl (Below.refl _ _)
           ·
            intro w214 vq214 hB214 hH214
            have hS214 := hS88.below hB214
            refine W_guard_yes rfl ?_
            refine W_move rfl rfl ?_
            refine W_nil ?_
            exact N_step rfl rfl (Below.refl _ _)
           ·
            intro w215 vq215 hB215 hH215
            have hS215 := hS88.below hB215
            refine W_guard_yes rfl ?_
            refine W_lenv rfl Go.Proofs.Try.underlying47 rfl h0.ln ?_
            refine W_nil ?_
            exact N_step rfl rfl (Below.refl _ _)
           ·
            intro w216 vq216 hB216 hH216
            have hS216 := hS88.below hB216
            refine W_guard_yes rfl ?_
            refine W_geq rfl rfl rfl ?_
            refine W_nil ?_
            exact N_step rfl rfl (Below.refl _ _)
           ·
            intro w217 vq217 hB217 hH217
            have hS217 := hS88.below hB217
            refine W_pick_f rfl rfl rfl ?_
            refine W_nil ?_
            exact N_step rfl rfl (Below.refl _ _)
           ·
            intro w218 vq218 hB218 hH218
            have hS218 := hS88.below hB218
            refine W_move rfl rfl ?_
            refine W_nil ?_
            exact N_step rfl (congrArg Value.bool hb150) (Below.refl _ _)
           ·
            intro w219 vq219 hB219 hH219
            have hS219 := hS88.below hB219
            refine W_guard_yes rfl ?_
            refine W_move rfl rfl ?_
            refine W_nil ?_
            exact N_step rfl rfl (Below.refl _ _)
           ·
            intro w220 vq220 hB220 hH220
            have hS220 := hS88.below hB220
            refine W_guard_yes rfl ?_
            refine W_move rfl rfl ?_
            refine W_nil ?_
            exact N_step rfl rfl (Below.refl _ _)
           ·
            intro w221 vq221 hB221 hH221
            have hS221 := hS88.below hB221
            refine W_guard_yes rfl ?_
            refine W_move rfl rfl ?_
            refine W_nil ?_
            exact N_step rfl rfl (Below.refl _ _)
           ·
            intro w222 vq222 hB222 hH222
            have hS222 := hS88.below hB222
            refine W_guard_yes rfl ?_
            refine W_ix rfl Go.Proofs.Try.underlying22 Ty.cells3 Ty.info3 rfl rfl (he201.below hB222) hp201 rfl ?_
            refine W_nil ?_
            exact N_step rfl rfl (Below.refl _ _)
           ·
            intro w223 vq223 hB223 hH223
            have hS223 := hS88.below hB223
            refine W_guard_yes rfl ?_
            refine W_ld1 0 rfl Ty.cell3 rfl (he201.below hB223) (by omega) rfl ?_
            refine W_nil ?_
            exact N_step rfl rfl (Below.refl _ _)
           ·
            intro w224 vq224 hB224 hH224
            have hS224 := hS88.below hB224
            refine W_guard_yes rfl ?_
            refine W_ix rfl Go.Proofs.Try.underlying47 Ty.cells52 Ty.info52 rfl rfl (he203.el hS224.agree) hp203 rfl ?_
            refine W_nil ?_
            exact N_step rfl rfl (Below.refl _ _)
           ·
            intro w225 vq225 hB225 hH225
            have hS225 := hS88.below hB225
            refine W_guard_yes rfl ?_
            refine W_fld 32 rfl Ty.field52_1 rfl (he203.el hS225.agree) ?_
            refine W_nil ?_
            exact N_step rfl rfl (Below.refl _ _)
           ·
            intro w226 vq226 hB226 hH226
            have hS226 := hS88.below hB226
            refine W_guard_yes rfl ?_
            refine W_ld1 32 rfl Ty.cell49 rfl (he203.el hS226.agree) (by omega) rfl ?_
            refine W_nil ?_
            exact N_step rfl rfl (Below.refl _ _)
           ·
            intro w227 vq227 hB227 hH227
            have hS227 := hS88.below hB227
            refine W_guard_yes rfl ?_
            refine W_lenv rfl Go.Proofs.Try.underlying49 rfl hue100_0.ln ?_
            refine W_nil ?_
            exact N_step rfl rfl (Below.refl _ _)
           ·
            intro w228 vq228 hB228 hH228
            have hS228 := hS88.below hB228
            refine W_guard_yes rfl ?_
            refine W_gtr rfl rfl rfl ?_
            refine W_nil ?_
            exact N_step rfl rfl (Below.refl _ _)
           ·
            intro w229 vq229 hB229 hH229
            have hS229 := hS88.below hB229
            refine W_pick_f rfl rfl rfl ?_
            refine W_nil ?_
            exact N_step rfl rfl (Below.refl _ _)
           ·
            intro w230 vq230 hB230 hH230
            have hS230 := hS88.below hB230
            refine W_move rfl rfl ?_
            refine W_nil ?_
            exact N_step rfl (congrArg Value.bool hb196) (Below.refl _ _)
           ·
            intro w231 vq231 hB231 hH231
            have hS231 := hS88.below hB231
            refine W_guard_no rfl rfl rfl rfl rfl ?_
            refine W_nil ?_
            exact N_step rfl rfl (Below.refl _ _)
           ·
            intro w232 vq232 hB232 hH232
            have hS232 := hS88.below hB232
            refine W_guard_no rfl rfl rfl rfl rfl ?_
            refine W_nil ?_
            exact N_step rfl rfl (Below.refl _ _)
           ·
            intro w233 vq233 hB233 hH233
            have hS233 := hS88.below hB233
            refine W_guard_no rfl rfl rfl rfl rfl ?_
            refine W_nil ?_
            exact N_step rfl rfl (Below.refl _ _)
           ·
            intro w234 vq234 hB234 hH234
            have hS234 := hS88.below hB234
            refine W_guard_un rfl rfl rfl rfl ?_
            refine W_nil ?_
            exact N_step rfl rfl (Below.refl _ _)
           ·
            intro w235 vq235 hB235 hH235
            have hS235 := hS88.below hB235
            refine W_guard_un rfl rfl rfl rfl ?_
            refine W_nil ?_
            exact N_step rfl rfl (Below.refl _ _)
           ·
            intro w236 vq236 hB236 hH236
            have hS236 := hS88.below hB236
            refine W_guard_un rfl rfl rfl rfl ?_
            refine W_nil ?_
            exact N_step rfl rfl (Below.refl _ _)
           ·
            intro w237 vq237 hB237 hH237
            have hS237 := hS88.below hB237
            refine W_guard_un rfl rfl rfl rfl ?_
            refine W_nil ?_
            exact N_step rfl rfl (Below.refl _ _)
           ·
            intro w238 vq238 hB238 hH238
            have hS238 := hS88.below hB238
            refine W_guard_un rfl rfl rfl rfl ?_
            refine W_nil ?_
            exact N_step rfl rfl (Below.refl _ _)
           ·
            intro w239 vq239 hB239 hH239
            have hS239 := hS88.below hB239
            refine W_guard_un rfl rfl rfl rfl ?_
            refine W_nil ?_
            exact N_step rfl rfl (Below.refl _ _)
           ·
            intro w240 vq240 hB240 hH240
            have hS240 := hS88.below hB240
            refine W_guard_un rfl rfl rfl rfl ?_
            refine W_nil ?_
            exact N_step rfl rfl (Below.refl _ _)
           ·
            intro w241 vq241 hB241 hH241
            have hS241 := hS88.below hB241
            refine W_guard_un rfl rfl rfl rfl ?_
            refine W_nil ?_
            exact N_step rfl rfl (Below.refl _ _)
           ·
            intro w242 vq242 hB242 hH242
            have hS242 := hS88.below hB242
            refine W_guard_un rfl rfl rfl rfl ?_
            refine W_nil ?_
            exact N_step rfl rfl (Below.refl _ _)
           ·
            intro w243 vq243 hB243 hH243
            have hS243 := hS88.below hB243
            refine W_guard_un rfl rfl rfl rfl ?_
            refine W_nil ?_
            exact N_step rfl rfl (Below.refl _ _)
           ·
            intro w244 vq244 hB244 hH244
            have hS244 := hS88.below hB244
            refine W_guard_no rfl rfl rfl rfl rfl ?_
            refine W_nil ?_
            exact N_step rfl rfl (Below.refl _ _)
          intro w245 vq245 hB245 hH245
          have hS245 := hS88.below hB245
          refine W_pick_t rfl rfl rfl ?_
          refine W_nil ?_
          exact N_join _ ⟨rfl, F88, (Frz.le.refl _), hS245⟩ ⟨rfl, rfl, rfl, rfl, rfl, (look_bool rfl (by first | rfl | (rw [hb196, hb150, hb106]; first | done | rfl) | simp [hb106, hb150, hb196])), trivial⟩
         ·
          rcases Bool.eq_false_or_eq_true (decide (0 < i89)) with hb246 | hb246
          ·
           obtain ⟨hp247, hy247⟩ := ix_some hx93
           obtain ⟨cs247, hr247, he247⟩ := hS88.rowAt (k := 2) rfl hy247
           obtain rfl := hr247
           replace he247 : El _ _ 1 _ _ := he247
           have hy248 := hx95
           rw [only_t (by first | rfl | (rw [hb106]; first | done | rfl) | simp [hb106, hb150, hb196, hb246])] at hy248
           obtain ⟨hp249, hy249⟩ := ix_some hy248
           obtain ⟨cs249, hr249, he249⟩ := hS88.rowAt (k := 2) rfl hy249
           obtain rfl := hr249
           replace he249 : El _ _ 1 _ _ := he249
           have hy250 := hx97
           rw [only_t (by first | rfl | (rw [hb150, hb106]; first | done | rfl) | simp [hb106, hb150, hb196, hb246])] at hy250
           obtain ⟨hp251, hy251⟩ := ix_some hy250
           obtain ⟨cs251, hr251, he251⟩ := hS88.rowAt (k := 2) rfl hy251
           obtain rfl := hr251
           replace he251 : El _ _ 1 _ _ := he251
           have hy252 := hx99
           rw [only_t (by first | rfl | (rw [hb150, hb106]; first | done | rfl) | simp [hb106, hb150, hb196, hb246])] at hy252
           obtain ⟨hp253, hy253⟩ := ix_some hy252
           obtain ⟨cs253, hr253, he253⟩ := (h0.mono ((ler4.trans le8).trans le88)).at_ hy253
           obtain ⟨ue100_0, rfl, hle100_0, hue100_0⟩ := hr253
           replace he253 : Elf _ _ 33 _ _ := he253
           have hy254 := hx101
           rw [only_t (by first | rfl | (rw [hb196, hb150, hb106, hb246]; first | done | rfl) | simp [hb106, hb150, hb196, hb246])] at hy254
           obtain ⟨hp255, hy255⟩ := ix_some hy254
           obtain ⟨cs255, hr255, he255⟩ := hS88.rowAt (k := 2) rfl hy255
           obtain rfl := hr255
           replace he255 : El _ _ 1 _ _ := he255
           have hy256 := hx103
           rw [only_t (by first | rfl | (rw [hb196, hb150, hb106, hb246]; first | done | rfl) | simp [hb106, hb150, hb196, hb246])] at hy256
           obtain ⟨hp257, hy257⟩ := ix_some hy256
           obtain ⟨cs257, hr257, he257⟩ := hS88.rowAt (k := 2) rfl hy257
           obtain rfl := hr257
           replace he257 : El _ _ 1 _ _ := he257
           apply C_draw 41 [[], [], [0, 1], [2], [3], [4], [5], [5], [6, 7, 5], [8, 5], [5], [10, 5], [9, 11, 5], [5, 12], [13], [14], [14], [14], [16, 17, 14], [18, 14], [15, 19, 14], [20, 14], [21, 14], [22, 14], [23, 14], [14, 24], [25], [26], [27, 26], [28, 26], [29], [29], [30, 31, 29], [32, 29], [29], [29], [35, 29], [34, 36, 29], [37, 29], [33, 38, 29], [29, 39, 26]] [.val (ur4_1), .val (.int .i64 i89), .val (elp ur4_1 (i89.toNat * 1)), .val (.int .i64 x93), .val (.bool (decide (x93 < 0))), .val (.bool false), .val (ur4_1), .val (.int .i64 i89), .val (elp ur4_1 (i89.toNat * 1)), .val (.int .i64 x95), .val (v0), .val (.int .i64 (x0.length : Int)), .val (.bool (decide ((x0.length : Int) ≤ x95))), .val (.bool (decide ((x0.length : Int) ≤ x95))), .val (.bool false), .val (v0), .val (ur4_1), .val (.int .i64 i89), .val (elp ur4_1 (i89.toNat * 1)), .val (.int .i64 x97), .val (elp v0 (x97.toNat * 33)), .val (elp v0 ((x97.toNat * 33) + 32)), .val (ue100_0), .val (.int .i64 (x99.locs.length : Int)), .val (.bool (decide (0 < (x99.locs.length : Int)))), .val (.bool (decide (0 < (x99.locs.length : Int)))), .val (.bool false), .val (.int .i64 i89), .val (.bool (decide (0 < i89))), .val (.bool true), .val (ur4_1), .val (.int .i64 i89), .val (elp ur4_1 (i89.toNat * 1)), .val (.int .i64 x101), .val (ur4_1), .val (.int .i64 i89), .val (.int .i64 (wr (i89 - 1))), .val (elp ur4_1 ((wr (i89 - 1)).toNat * 1)), .val (.int .i64 x103), .val (.bool (decide (x101 ≤ x103))), .val (.bool (decide (x101 ≤ x103)))] Ty.mixed rfl rfl (by kernel_rfl) (by kernel_rfl) rfl
           ·
            refine ⟨?_, ?_, ?_, ?_, ?_, ?_, ?_, ?_, ?_, ?_, ?_, ?_, ?_, ?_, ?_, ?_, ?_, ?_, ?_, ?_, ?_, ?_, ?_, ?_, ?_, ?_, ?_, ?_, ?_, ?_, ?_, ?_, ?_, ?_, ?_, ?_, ?_, ?_, ?_, ?_, ?_, trivial⟩
            ·
             intro w258 vq258 hB258 hH258
             have hS258 := hS88.below hB258
             refine W_move rfl rfl ?_
             refine W_nil ?_
             exact N_step rfl rfl (Below.refl _ _)
            ·
             intro w259 vq259 hB259 hH259
             have hS259 := hS88.below hB259
             refine W_move rfl rfl ?_
             refine W_nil ?_
             exact N_step rfl rfl (Below.refl _ _)
            ·
             intro w260 vq260 hB260 hH260
             have hS260 := hS88.below hB260
             refine W_ix rfl Go.Proofs.Try.underlying22 Ty.cells3 Ty.info3 rfl rfl (he247.below hB260) hp247 rfl ?_
             refine W_nil ?_
             exact N_step rfl rfl (Below.refl _ _)
            ·
             intro w261 vq261 hB261 hH261
             have hS261 := hS88.below hB261
             refine W_ld1 0 rfl Ty.cell3 rfl (he247.below hB261) (by omega) rfl ?_
             refine W_nil ?_
             exact N_step rfl rfl (Below.refl _ _)
            ·
             intro w262 vq262 hB262 hH262
             have hS262 := hS88.below hB262
             refine W_lss rfl rfl rfl ?_
             refine W_nil ?_
             exact N_step rfl rfl (Below.refl _ _)
            ·
             intro w263 vq263 hB263 hH263
             have hS263 := hS88.below hB263
             refine W_move rfl rfl ?_
             refine W_nil ?_
             exact N_step rfl (congrArg Value.bool hb106) (Below.refl _ _)
            ·
             intro w264 vq264 hB264 hH264
             have hS264 := hS88.below hB264
             refine W_guard_yes rfl ?_
             refine W_move rfl rfl ?_
             refine W_nil ?_
             exact N_step rfl rfl (Below.refl _ _)
            ·
             intro w265 vq265 hB265 hH265
             have hS265 := hS88.below hB265
             refine W_guard_yes rfl ?_
             refine W_move rfl rfl ?_
             refine W_nil ?_
             exact N_step rfl rfl (Below.refl _ _)
            ·
             intro w266 vq266 hB266 hH266
             have hS266 := hS88.below hB266
             refine W_guard_yes rfl ?_
             refine W_ix rfl Go.Proofs.Try.underlying22 Ty.cells3 Ty.info3 rfl rfl (he249.below hB266) hp249 rfl ?_
             refine W_nil ?_
             exact N_step rfl rfl (Below.refl _ _)
            ·
             intro w267 vq267 hB267 hH267
             have hS267 := hS88.below hB267
             refine W_guard_yes rfl ?_
             refine W_ld1 0 rfl Ty.cell3 rfl (he249.below hB267) (by omega) rfl ?_
             refine W_nil ?_
             exact N_step rfl rfl (Below.refl _ _)
            ·
             intro w268 vq268 hB268 hH268
             have hS268 := hS88.below hB268
             refine W_guard_yes rfl ?_
             refine W_move rfl rfl ?_
             refine W_nil ?_
             exact N_step rfl rfl (Below.refl _ _)
            ·
             intro w269 vq269 hB269 hH269
             have hS269 := hS88.below hB269
             refine W_guard_yes rfl ?_
             refine W_lenv rfl Go.Proofs.Try.underlying47 rfl h0.ln ?_
             refine W_nil ?_
             exact N_step rfl rfl (Below.refl _ _)
            ·
             intro w270 vq270 hB270 hH270
             have hS270 := hS88.below hB270
             refine W_guard_yes rfl ?_
             refine W_geq rfl rfl rfl ?_
             refine W_nil ?_
             exact N_step rfl rfl (Below.refl _ _)
            ·
             intro w271 vq271 hB271 hH271
             have hS271 := hS88.below hB271
             refine W_pick_f rfl rfl rfl ?_
             refine W_nil ?_
             exact N_step rfl rfl (Below.refl _ _)
            ·
             intro w272 vq272 hB272 hH272
             have hS272 := hS88.below hB272
             refine W_move rfl rfl ?_
             refine W_nil ?_
             exact N_step rfl (congrArg Value.bool hb150) (Below.refl _ _)
            ·
             intro w273 vq273 hB273 hH273
             have hS273 := hS88.below hB273
             refine W_guard_yes rfl ?_
             refine W_move rfl rfl ?_
             refine W_nil ?_
             exact N_step rfl rfl (Below.refl _ _)
            ·
             intro w274 vq274 hB274 hH274
             have hS274 := hS88.below hB274
             refine W_guard_yes rfl ?_
             refine W_move rfl rfl ?_
             refine W_nil ?_
             exact N_step rfl rfl (Below.refl _ _)
            ·
             intro w275 vq275 hB275 hH275
             have hS275 := hS88.below hB275
             refine W_guard_yes rfl ?_
             refine W_move rfl rfl ?_
             refine W_nil ?_
             exact N_step rfl rfl (Below.refl _ _)
            ·
             intro w276 vq276 hB276 hH276
             have hS276 := hS88.below hB276
             refine W_guard_yes rfl ?_
             refine W_ix rfl Go.Proofs.Try.underlying22 Ty.cells3 Ty.info3 rfl rfl (he251.below hB276) hp251 rfl ?_
             refine W_nil ?_
             exact N_step rfl rfl (Below.refl _ _)
            ·
             intro w277 vq277 hB277 hH277
             have hS277 := hS88.below hB277
             refine W_guard_yes rfl ?_
             refine W_ld1 0 rfl Ty.cell3 rfl (he251.below hB277) (by omega) rfl ?_
             refine W_nil ?_
             exact N_step rfl rfl (Below.refl _ _)
            ·
             intro w278 vq278 hB278 hH278
             have hS278 := hS88.below hB278
             refine W_guard_yes rfl ?_
             refine W_ix rfl Go.Proofs.Try.underlying47 Ty.cells52 Ty.info52 rfl rfl (he253.el hS278.agree) hp253 rfl ?_
             refine W_nil ?_
             exact N_step rfl rfl (Below.refl _ _)
            ·
             intro w279 vq279 hB279 hH279
             have hS279 := hS88.below hB279
             refine W_guard_yes rfl ?_
             refine W_fld 32 rfl Ty.field52_1 rfl (he253.el hS279.agree) ?_
             refine W_nil ?_
             exact N_step rfl rfl (Below.refl _ _)
            ·
             intro w280 vq280 hB280 hH280
             have hS280 := hS88.below hB280
             refine W_guard_yes rfl ?_
             refine W_ld1 32 rfl Ty.cell49 rfl (he253.el hS280.agree) (by omega) rfl ?_
             refine W_nil ?_
             exact N_step rfl rfl (Below.refl _ _)
            ·
             intro w281 vq281 hB281 hH281
             have hS281 := hS88.below hB281
             refine W_guard_yes rfl ?_
             refine W_lenv rfl Go.Proofs.Try.underlying49 rfl hue100_0.ln ?_
             refine W_nil ?_
             exact N_step rfl rfl (Below.refl _ _)
            ·
             intro w282 vq282 hB282 hH282
             have hS282 := hS88.below hB282
             refine W_guard_yes rfl ?_
             refine W_gtr rfl rfl rfl ?_
             refine W_nil ?_
             exact N_step rfl rfl (Below.refl _ _)
            ·
             intro w283 vq283 hB283 hH283
             have hS283 := hS88.below hB283
             refine W_pick_f rfl rfl rfl ?_
             refine W_nil ?_
             exact N_step rfl rfl (Below.refl _ _)
            ·
             intro w284 vq284 hB284 hH284
             have hS284 := hS88.below hB284
             refine W_move rfl rfl ?_
             refine W_nil ?_
             exact N_step rfl (congrArg Value.bool hb196) (Below.refl _ _)
            ·
             intro w285 vq285 hB285 hH285
             have hS285 := hS88.below hB285
             refine W_guard_yes rfl ?_
             refine W_move rfl rfl ?_
             refine W_nil ?_
             exact N_step rfl rfl (Below.refl _ _)
            ·
             intro w286 vq286 hB286 hH286
             have hS286 := hS88.below hB286
             refine W_guard_yes rfl ?_
             refine W_gtr rfl rfl rfl ?_
             refine W_nil ?_
             exact N_step rfl rfl (Below.refl _ _)
            ·
             intro w287 vq287 hB287 hH287
             have hS287 := hS88.below hB287
             refine W_guard_yes rfl ?_
             refine W_move rfl rfl ?_
             refine W_nil ?_
             exact N_step rfl (congrArg Value.bool hb246) (Below.refl _ _)
            ·
             intro w288 vq288 hB288 hH288
             have hS288 := hS88.below hB288
             refine W_guard_yes rfl ?_
             refine W_move rfl rfl ?_
             refine W_nil ?_
             exact N_step rfl rfl (Below.refl _ _)
            ·
             intro w289 vq289 hB289 hH289
             have hS289 := hS88.below hB289
             refine W_guard_yes rfl ?_
             refine W_move rfl rfl ?_
             refine W_nil ?_
             exact N_step rfl rfl (Below.refl _ _)
            ·
             intro w290 vq290 hB290 hH290
             have hS290 := hS88.below hB290
             refine W_guard_yes rfl ?_
             refine W_ix rfl Go.Proofs.Try.underlying22 Ty.cells3 Ty.info3 rfl rfl (he255.below hB290) hp255 rfl ?_
             refine W_nil ?_
             exact N_step rfl rfl (Below.refl _ _)
            ·
             intro w291 vq291 hB291 hH291
             have hS291 := hS88.below hB291
             refine W_guard_yes rfl ?_
             refine W_ld1 0 rfl Ty.cell3 rfl (he255.below hB291) (by omega) rfl ?_
             refine W_nil ?_
             exact N_step rfl rfl (Below.refl _ _)
            ·
             intro w292 vq292 hB292 hH292
             have hS292 := hS88.below hB292
             refine W_guard_yes rfl ?_
             refine W_move rfl rfl ?_
             refine W_nil ?_
             exact N_step rfl rfl (Below.refl _ _)
            ·
             intro w293 vq293 hB293 hH293
             have hS293 := hS88.below hB293
             refine W_guard_yes rfl ?_
             refine W_move rfl rfl ?_
             refine W_nil ?_
             exact N_step rfl rfl (Below.refl _ _)
            ·
             intro w294 vq294 hB294 hH294
             have hS294 := hS88.below hB294
             refine W_guard_yes rfl ?_
             refine W_subi rfl rfl rfl rfl ?_
             refine W_nil ?_
             exact N_step rfl rfl (Below.refl _ _)
            ·
             intro w295 vq295 hB295 hH295
             have hS295 := hS88.below hB295
             refine W_guard_yes rfl ?_
             refine W_ix rfl Go.Proofs.Try.underlying22 Ty.cells3 Ty.info3 rfl rfl (he257.below hB295) hp257 rfl ?_
             refine W_nil ?_
             exact N_step rfl rfl (Below.refl _ _)
            ·
             intro w296 vq296 hB296 hH296
             have hS296 := hS88.below hB296
             refine W_guard_yes rfl ?_
             refine W_ld1 0 rfl Ty.cell3 rfl (he257.below hB296) (by omega) rfl ?_
             refine W_nil ?_
             exact N_step rfl rfl (Below.refl _ _)
            ·
             intro w297 vq297 hB297 hH297
             have hS297 := hS88.below hB297
             refine W_guard_yes rfl ?_
             refine W_leq rfl rfl rfl ?_
             refine W_nil ?_
             exact N_step rfl rfl (Below.refl _ _)
            ·
             intro w298 vq298 hB298 hH298
             have hS298 := hS88.below hB298
             refine W_guard_yes rfl ?_
             refine W_pick_t rfl rfl rfl ?_
             refine W_nil ?_
             exact N_step rfl rfl (Below.refl _ _)
           intro w299 vq299 hB299 hH299
           have hS299 := hS88.below hB299
           refine W_pick_f rfl rfl rfl ?_
           refine W_nil ?_
           exact N_join _ ⟨rfl, F88, (Frz.le.refl _), hS299⟩ ⟨rfl, rfl, rfl, rfl, rfl, (look_bool rfl (by first | rfl | (rw [hb196, hb150, hb106, hb246]; first | done | rfl) | simp [hb106, hb150, hb196, hb246])), trivial⟩
          ·
           obtain ⟨hp300, hy300⟩ := ix_some hx93
           obtain ⟨cs300, hr300, he300⟩ := hS88.rowAt (k := 2) rfl hy300
           obtain rfl := hr300
           replace he300 : El _ _ 1 _ _ := he300
           have hy301 := hx95
           rw [only_t (by first | rfl | (rw [hb106]; first | done | rfl) | simp [hb106, hb150, hb196, hb246])] at hy301
           obtain ⟨hp302, hy302⟩ := ix_some hy301
           obtain ⟨cs302, hr302, he302⟩ := hS88.rowAt (k := 2) rfl hy302
           obtain rfl := hr302
           replace he302 : El _ _ 1 _ _ := he302
           have hy303 := hx97
           rw [only_t (by first | rfl | (rw [hb150, hb106]; first | done | rfl) | simp [hb106, hb150, hb196, hb246])] at hy303
           obtain ⟨hp304, hy304⟩ := ix_some hy303
           obtain ⟨cs304, hr304, he304⟩ := hS88.rowAt (k := 2) rfl hy304
           obtain rfl := hr304
           replace he304 : El _ _ 1 _ _ := he304
           have hy305 := hx99
           rw [only_t (by first | rfl | (rw [hb150, hb106]; first | done | rfl) | simp [hb106, hb150, hb196, hb246])] at hy305
           obtain ⟨hp306, hy306⟩ := ix_some hy305
           obtain ⟨cs306, hr306, he306⟩ := (h0.mono ((ler4.trans le8).trans le88)).at_ hy306
           obtain ⟨ue100_0, rfl, hle100_0, hue100_0⟩ := hr306
           replace he306 : Elf _ _ 33 _ _ := he306
           apply C_draw 41 [[], [], [0, 1], [2], [3], [4], [5], [5], [6, 7, 5], [8, 5], [5], [10, 5], [9, 11, 5], [5, 12], [13], [14], [14], [14], [16, 17, 14], [18, 14], [15, 19, 14], [20, 14], [21, 14], [22, 14], [23, 14], [14, 24], [25], [26], [27, 26], [28, 26], [29], [29], [30, 31, 29], [32, 29], [29], [29], [35, 29], [34, 36, 29], [37, 29], [33, 38, 29], [29, 39, 26]] [.val (ur4_1), .val (.int .i64 i89), .val (elp ur4_1 (i89.toNat * 1)), .val (.int .i64 x93), .val (.bool (decide (x93 < 0))), .val (.bool false), .val (ur4_1), .val (.int .i64 i89), .val (elp ur4_1 (i89.toNat * 1)), .val (.int .i64 x95), .val (v0), .val (.int .i64 (x0.length : Int)), .val (.bool (decide ((x0.length : Int) ≤ x95))), .val (.bool (decide ((x0.length : Int) ≤ x95))), .val (.bool false), .val (v0), .val (ur4_1), .val (.int .i64 i89), .val (elp ur4_1 (i89.toNat * 1)), .val (.int .i64 x97), .val (elp v0 (x97.toNat * 33)), .val (elp v0 ((x97.toNat * 33) + 32)), .val (ue100_0), .val (.int .i64 (x99.locs.length : Int)), .val (.bool (decide (0 < (x99.locs.length : Int)))), .val (.bool (decide (0 < (x99.locs.length : Int)))), .val (.bool false), .val (.int .i64 i89), .val (.bool (decide (0 < i89))), .val (.bool false), .val undef, .val undef, .val undef, .val undef, .val undef, .val undef, .val undef, .val undef, .val undef, .val undef, .val (.bool false)] Ty.mixed rfl rfl (by kernel_rfl) (by kernel_rfl) rfl
           ·
            refine ⟨?_, ?_, ?_, ?_, ?_, ?_, ?_, ?_, ?_, ?_, ?_, ?_, ?_, ?_, ?_, ?_, ?_, ?_, ?_, ?_, ?_, ?_, ?_, ?_, ?_, ?_, ?_, ?_, ?_, ?_, ?_, ?_, ?_, ?_, ?_, ?_, ?_, ?_, ?_, ?_, ?_, trivial⟩
            ·
             intro w307 vq307 hB307 hH307
             have hS307 := hS88.below hB307
             refine W_move rfl rfl ?_
             refine W_nil ?_
             exact N_step rfl rfl (Below.refl _ _)
            ·
             intro w308 vq308 hB308 hH308
             have hS308 := hS88.below hB308
             refine W_move rfl rfl ?_
             refine W_nil ?_
             exact N_step rfl rfl (Below.refl _ _)
            ·
             intro w309 vq309 hB309 hH309
             have hS309 := hS88.below hB309
             refine W_ix rfl Go.Proofs.Try.underlying22 Ty.cells3 Ty.info3 rfl rfl (he300.below hB309) hp300 rfl ?_
             refine W_nil ?_
             exact N_step rfl rfl (Below.refl _ _)
            ·
             intro w310 vq310 hB310 hH310
             have hS310 := hS88.below hB310
             refine W_ld1 0 rfl Ty.cell3 rfl (he300.below hB310) (by omega) rfl ?_
             refine W_nil ?_
             exact N_step rfl rfl (Below.refl _ _)
            ·
             intro w311 vq311 hB311 hH311
             have hS311 := hS88.below hB311
             refine W_lss rfl rfl rfl ?_
             refine W_nil ?_
             exact N_step rfl rfl (Below.refl _ _)
            ·
             intro w312 vq312 hB312 hH312
             have hS312 := hS88.below hB312
             refine W_move rfl rfl ?_
             refine W_nil ?_
             exact N_step rfl (congrArg Value.bool hb106) (Below.refl _ _)
            ·
             intro w313 vq313 hB313 hH313
             have hS313 := hS88.below hB313
             refine W_guard_yes rfl ?_
             refine W_move rfl rfl ?_
             refine W_nil ?_
             exact N_step rfl rfl (Below.refl _ _)
            ·
             intro w314 vq314 hB314 hH314
             have hS314 := hS88.below hB314
             refine W_guard_yes rfl ?_
             refine W_move rfl rfl ?_
             refine W_nil ?_
             exact N_step rfl rfl (Below.refl _ _)
            ·
             intro w315 vq315 hB315 hH315
             have hS315 := hS88.below hB315
             refine W_guard_yes rfl ?_
             refine W_ix rfl Go.Proofs.Try.underlying22 Ty.cells3 Ty.info3 rfl rfl (he302.below hB315) hp302 rfl ?_
             refine W_nil ?_
             exact N_step rfl rfl (Below.refl _ _)
            ·
             intro w316 vq316 hB316 hH316
             have hS316 := hS88.below hB316
             refine W_guard_yes rfl ?_
             refine W_ld1 0 rfl Ty.cell3 rfl (he302.below hB316) (by omega) rfl ?_
             refine W_nil ?_
             exact N_step rfl rfl (Below.refl _ _)
            ·
             intro w317 vq317 hB317 hH317
             have hS317 := hS88.below hB317
             refine W_guard_yes rfl ?_
             refine W_move rfl rfl ?_
             refine W_nil ?_
             exact N_step rfl rfl (Below.refl _ _)
            ·
             intro w318 vq318 hB318 hH318
             have hS318 := hS88.below hB318
             refine W_guard_yes rfl ?_
             refine W_lenv rfl Go.Proofs.Try.underlying47 rfl h0.ln ?_
             refine W_nil ?_
             exact N_step rfl rfl (Below.refl _ _)
            ·
             intro w319 vq319 hB319 hH319
             have hS319 := hS88.below hB319
             refine W_guard_yes rfl ?_
             refine W_geq rfl rfl rfl ?_
             refine W_nil ?_
             exact N_step rfl rfl (Below.refl _ _)
            ·
             intro w320 vq320 hB320 hH320
             have hS320 := hS88.below hB320
             refine W_pick_f rfl rfl rfl ?_
             refine W_nil ?_
             exact N_step rfl rfl (Below.refl _ _)
            ·
             intro w321 vq321 hB321 hH321
             have hS321 := hS88.below hB321
             refine W_move rfl rfl ?_
             refine W_nil ?_
             exact N_step rfl (congrArg Value.bool hb150) (Below.refl _ _)
            ·
             intro w322 vq322 hB322 hH322
             have hS322 := hS88.below hB322
             refine W_guard_yes rfl ?_
             refine W_move rfl rfl ?_
             refine W_nil ?_
             exact N_step rfl rfl (Below.refl _ _)
            ·
             intro w323 vq323 hB323 hH323
             have hS323 := hS88.below hB323
             refine W_guard_yes rfl ?_
             refine W_move rfl rfl ?_
             refine W_nil ?_
             exact N_step rfl rfl (Below.refl _ _)
            ·
             intro w324 vq324 hB324 hH324
             have hS324 := hS88.below hB324
             refine W_guard_yes rfl ?_
             refine W_move rfl rfl ?_
             refine W_nil ?_
             exact N_step rfl rfl (Below.refl _ _)
            ·
             intro w325 vq325 hB325 hH325
             have hS325 := hS88.below hB325
             refine W_guard_yes rfl ?_
             refine W_ix rfl Go.Proofs.Try.underlying22 Ty.cells3 Ty.info3 rfl rfl (he304.below hB325) hp304 rfl ?_
             refine W_nil ?_
             exact N_step rfl rfl (Below.refl _ _)
            ·
             intro w326 vq326 hB326 hH326
             have hS326 := hS88.below hB326
             refine W_guard_yes rfl ?_
             refine W_ld1 0 rfl Ty.cell3 rfl (he304.below hB326) (by omega) rfl ?_
             refine W_nil ?_
             exact N_step rfl rfl (Below.refl _ _)
            ·
             intro w327 vq327 hB327 hH327
             have hS327 := hS88.below hB327
             refine W_guard_yes rfl ?_
             refine W_ix rfl Go.Proofs.Try.underlying47 Ty.cells52 Ty.info52 rfl rfl (he306.el hS327.agree) hp306 rfl ?_
             refine W_nil ?_
             exact N_step rfl rfl (Below.refl _ _)
            ·
             intro w328 vq328 hB328 hH328
             have hS328 := hS88.below hB328
             refine W_guard_yes rfl ?_
             refine W_fld 32 rfl Ty.field52_1 rfl (he306.el hS328.agree) ?_
             refine W_nil ?_
             exact N_step rfl rfl (Below.refl _ _)
            ·
             intro w329 vq329 hB329 hH329
             have hS329 := hS88.below hB329
             refine W_guard_yes rfl ?_
             refine W_ld1 32 rfl Ty.cell49 rfl (he306.el hS329.agree) (by omega) rfl ?_
             refine W_nil ?_
             exact N_step rfl rfl (Below.refl _ _)
            ·
             intro w330 vq330 hB330 hH330
             have hS330 := hS88.below hB330
             refine W_guard_yes rfl ?_
             refine W_lenv rfl Go.Proofs.Try.underlying49 rfl hue100_0.ln ?_
             refine W_nil ?_
             exact N_step rfl rfl (Below.refl _ _)
            ·
             intro w331 vq331 hB331 hH331
             have hS331 := hS88.below hB331
             refine W_guard_yes rfl ?_
             refine W_gtr rfl rfl rfl ?_
             refine W_nil ?_
             exact N_step rfl rfl (Below.refl _ _)
            ·
             intro w332 vq332 hB332 hH332
             have hS332 := hS88.below hB332
             refine W_pick_f rfl rfl rfl ?_
             refine W_nil ?_
             exact N_step rfl rfl (Below.refl _ _)
            ·
             intro w333 vq333 hB333 hH333
             have hS333 := hS88.below hB333
             refine W_move rfl rfl ?_
             refine W_nil ?_
             exact N_step rfl (congrArg Value.bool hb196) (Below.refl _ _)
            ·
             intro w334 vq334 hB334 hH334
             have hS334 := hS88.below hB334
             refine W_guard_yes rfl ?_
             refine W_move rfl rfl ?_
             refine W_nil ?_
             exact N_step rfl rfl (Below.refl _ _)
            ·
             intro w335 vq335 hB335 hH335
             have hS335 := hS88.below hB335
             refine W_guard_yes rfl ?_
             refine W_gtr rfl rfl rfl ?_
             refine W_nil ?_
             exact N_step rfl rfl (Below.refl _ _)
            ·
             intro w336 vq336 hB336 hH336
             have hS336 := hS88.below hB336
             refine W_guard_yes rfl ?_
             refine W_move rfl rfl ?_
             refine W_nil ?_
             exact N_step rfl (congrArg Value.bool hb246) (Below.refl _ _)
            ·
             intro w337 vq337 hB337 hH337
             have hS337 := hS88.below hB337
             refine W_guard_no rfl rfl rfl rfl rfl ?_
             refine W_nil ?_
             exact N_step rfl rfl (Below.refl _ _)
            ·
             intro w338 vq338 hB338 hH338
             have hS338 := hS88.below hB338
             refine W_guard_no rfl rfl rfl rfl rfl ?_
             refine W_nil ?_
             exact N_step rfl rfl (Below.refl _ _)
            ·
             intro w339 vq339 hB339 hH339
             have hS339 := hS88.below hB339
             refine W_guard_no rfl rfl rfl rfl rfl ?_
             refine W_nil ?_
             exact N_step rfl rfl (Below.refl _ _)
            ·
             intro w340 vq340 hB340 hH340
             have hS340 := hS88.below hB340
             refine W_guard_no rfl rfl rfl rfl rfl ?_
             refine W_nil ?_
             exact N_step rfl rfl (Below.refl _ _)
            ·
             intro w341 vq341 hB341 hH341
             have hS341 := hS88.below hB341
             refine W_guard_no rfl rfl rfl rfl rfl ?_
             refine W_nil ?_
             exact N_step rfl rfl (Below.refl _ _)
            ·
             intro w342 vq342 hB342 hH342
             have hS342 := hS88.below hB342
             refine W_guard_no rfl rfl rfl rfl rfl ?_
             refine W_nil ?_
             exact N_step rfl rfl (Below.refl _ _)
            ·
             intro w343 vq343 hB343 hH343
             have hS343 := hS88.below hB343
             refine W_guard_no rfl rfl rfl rfl rfl ?_
             refine W_nil ?_
             exact N_step rfl rfl (Below.refl _ _)
            ·
             intro w344 vq344 hB344 hH344
             have hS344 := hS88.below hB344
             refine W_guard_no rfl rfl rfl rfl rfl ?_
             refine W_nil ?_
             exact N_step rfl rfl (Below.refl _ _)
            ·
             intro w345 vq345 hB345 hH345
             have hS345 := hS88.below hB345
             refine W_guard_no rfl rfl rfl rfl rfl ?_
             refine W_nil ?_
             exact N_step rfl rfl (Below.refl _ _)
            ·
             intro w346 vq346 hB346 hH346
             have hS346 := hS88.below hB346
             refine W_guard_no rfl rfl rfl rfl rfl ?_
             refine W_nil ?_
             exact N_step rfl rfl (Below.refl _ _)
            ·
             intro w347 vq347 hB347 hH347
             have hS347 := hS88.below hB347
             refine W_guard_yes rfl ?_
             refine W_pick_f rfl rfl rfl ?_
             refine W_nil ?_
             exact N_step rfl rfl (Below.refl _ _)
           intro w348 vq348 hB348 hH348
           have hS348 := hS88.below hB348
           refine W_pick_f rfl rfl rfl ?_
           refine W_nil ?_
           exact N_join _ ⟨rfl, F88, (Frz.le.refl _), hS348⟩ ⟨rfl, rfl, rfl, rfl, rfl, (look_bool rfl (by first | rfl | (rw [hb196, hb150, hb106, hb246]; first | done | rfl) | simp [hb106, hb150, hb196, hb246])), trivial⟩
      rintro E w105 ⟨rfl, F105, le105, hS105⟩
      refine N_code ?_
      refine C_cond rfl (fun hc349 => ?_) (fun hc349 => ?_)
      ·
       rw [if_t hc349] at H
       refine C_seq ?_
       refine C_region ?_
       refine W_assign rfl rfl ?_
       refine W_nil ?_
       refine N_code ?_
       obtain rfl := Option.some.inj H
       refine C_ret rfl rfl ?_
       exact ⟨F105, rfl, hS105.pick [] (by decide)⟩
      ·
       rw [if_f hc349] at H
       refine C_skip ?_
       refine N_code ?_
       obtain ⟨x350, hx350, H⟩ := bd_some H
       obtain ⟨x352, hx352, H⟩ := bd_some H
       refine C_region ?_
       refine W_move rfl rfl ?_
       refine W_move rfl rfl ?_
       refine W_move rfl rfl ?_
       obtain ⟨hp354, hy354⟩ := ix_some hx350
       obtain ⟨cs354, hr354, he354⟩ := hS105.rowAt (k := 2) rfl hy354
       obtain rfl := hr354
       replace he354 : El _ _ 1 _ _ := he354
       refine W_ix rfl Go.Proofs.Try.underlying22 Ty.cells3 Ty.info3 rfl rfl he354 hp354 rfl ?_
       refine W_ld1 0 rfl Ty.cell3 rfl he354 (by omega) rfl ?_
       obtain ⟨hp355, hy355⟩ := ix_some hx352
       obtain ⟨cs355, hr355, he355⟩ := hS105.rowAt (k := 0) rfl hy355
       obtain rfl := hr355
       replace he355 : El _ _ 1 _ _ := he355
       refine W_ix rfl Go.Proofs.Try.underlying22 Ty.cells3 Ty.info3 rfl rfl he355 hp355 rfl ?_
       refine W_ld1 0 rfl Ty.cell3 rfl he355 (by omega) rfl ?_
       refine W_add rfl rfl rfl rfl ?_
       refine W_ix rfl Go.Proofs.Try.underlying22 Ty.cells3 Ty.info3 rfl rfl he355 hp355 rfl ?_
       refine W_put (c := [.int .i64 (wr (x352 + 1))]) 0 (x350.toNat) 0 x352 (wr (x352 + 1)) rfl rfl hS105 rfl (ix_some hx352).2 (by first | rfl | (show _ = _ * 1 + _; omega)) rfl Ty.size3 (by intro y hy; simp at hy; subst hy; rfl) (by first | decide | exact Nat.le_of_ble_eq_true rfl) (by rintro cs rfl; rfl) ?_
       intro w356 hS356
       refine W_nil ?_
       refine N_block ?_
       refine N_code ?_
       refine C_region ?_
       refine W_move rfl rfl ?_
       refine W_add rfl rfl rfl rfl ?_
       refine W_assign rfl rfl ?_
       refine W_nil ?_
       exact N_againM (wr (i89 + 1), (l90.set x350.toNat (wr (x352 + 1)))) _ H ⟨F105, rfl, (le88.trans le105), hS356⟩ ⟨rfl, rfl, rfl, rfl, rfl, trivial⟩
     ·
      rw [if_f hc92] at H
      refine C_exit _ rfl ?_
      exact N_join _ ⟨l90, H, ⟨F88, rfl, le88, hS88.pick [0, 1] (by decide)⟩⟩ ⟨rfl, rfl, trivial⟩
   ·
    rintro E w10 ⟨l11, H, F10, rfl, le10, hS10⟩
    dsimp only [cellarerlaw21_PlanRises.k2] at H
    refine C_seq_join (fun E wq => cellarerlaw21_PlanRises.k3 r4 = some r ∧ ∃ (F12 : Frz), E = [(3, ur4_0)] ∧ F10.le F12 ∧ St [] w F F12 [.row Read.t 39 ur4_0 r4.1] wq) ?_ ?_
    ·
     refine C_seq ?_
     refine C_region ?_
     refine W_assign rfl rfl ?_
     refine W_nil ?_
     refine N_code ?_
     refine C_block ?_
     refine C_loopM (fun (s : Int) E wq => ∃ (F80 : Frz), E = [(3, ur4_0), (5, v7), (11, .int .i64 s)] ∧ F10.le F80 ∧ St [] w F F80 [.row tI 3 v7 l11, .row Read.t 39 ur4_0 r4.1] wq) H ?_ ?_
     ·
      exact ⟨_, ⟨F10, rfl, (Frz.le.refl _), hS10⟩, ⟨rfl, rfl, rfl, trivial⟩⟩
     ·
      rintro rec82 i81 E w80 hI H
      try dsimp only at hI
      obtain ⟨F80, rfl, le80, hS80⟩ := hI
      dsimp only [cellarerlaw21_PlanRises.l9] at H
      refine C_seq ?_
      refine C_seq ?_
      refine C_region ?_
      refine W_move rfl rfl ?_
      refine W_move rfl rfl ?_
      refine W_lenv rfl Go.Proofs.Try.underlying22 rfl (hS80.rowLn (k := 0) rfl) ?_
      refine W_lss rfl rfl rfl ?_
      refine W_nil ?_
      refine N_code ?_
      refine C_cond rfl (fun hc83 => ?_) (fun hc83 => ?_)
      ·
       rw [if_t hc83] at H
       refine C_skip ?_
       refine N_code ?_
       refine C_seq ?_
       refine C_block ?_
       refine C_seq ?_
       obtain ⟨x84, hx84, H⟩ := bd_some H
       refine C_region ?_
       refine W_move rfl rfl ?_
       refine W_move rfl rfl ?_
       obtain ⟨hp86, hy86⟩ := ix_some hx84
       obtain ⟨cs86, hr86, he86⟩ := hS80.rowAt (k := 0) rfl hy86
       obtain rfl := hr86
       replace he86 : El _ _ 1 _ _ := he86
       refine W_ix rfl Go.Proofs.Try.underlying22 Ty.cells3 Ty.info3 rfl rfl he86 hp86 rfl ?_
       refine W_ld1 0 rfl Ty.cell3 rfl he86 (by omega) rfl ?_
       refine W_neq rfl rfl rfl ?_
       refine W_nil ?_
       refine N_code ?_
       refine C_cond rfl (fun hc87 => ?_) (fun hc87 => ?_)
       ·
        rw [if_t hc87] at H
        refine C_seq ?_
        refine C_region ?_
        refine W_assign rfl rfl ?_
        refine W_nil ?_
        refine N_code ?_
        obtain rfl := Option.some.inj H
        refine C_ret rfl rfl ?_
        exact ⟨F80, rfl, hS80.pick [] (by decide)⟩
       ·
        rw [if_f hc87] at H
        refine C_skip ?_
        refine N_block ?_
        refine N_code ?_
        refine C_region ?_
        refine W_move rfl rfl ?_
        refine W_add rfl rfl rfl rfl ?_
        refine W_assign rfl rfl ?_
        refine W_nil ?_
        exact N_againM (wr (i81 + 1)) _ H ⟨F80, rfl, le80, hS80⟩ ⟨rfl, rfl, rfl, trivial⟩
      ·
       rw [if_f hc83] at H
       refine C_exit _ rfl ?_
       exact N_join _ ⟨H, ⟨F80, rfl, le80, hS80.pick [1] (by decide)⟩⟩ ⟨rfl, trivial⟩
    ·
     rintro E w12 ⟨H, F12, rfl, le12, hS12⟩
     dsimp only [cellarerlaw21_PlanRises.k3] at H
     refine C_seq ?_
     obtain ⟨r13, hr13, H⟩ := bd_some H
     refine C_region ?_
     refine W_move rfl rfl ?_
     refine W_call rfl Ty.named32 rfl (plan_Vols_ok (now_agree _) (hS12.rowNow (k := 0) rfl) hr13) ?_
     rintro ur13_0 w14 ⟨Fr13, _, rfl, hT14⟩
     have hS14 := hS12.lentFlat hT14 ⟨fun h => h, trivial⟩
     refine W_assign rfl rfl ?_
     refine W_nil ?_
     refine N_code ?_
     refine C_seq ?_
     refine C_region ?_
     refine W_assign rfl rfl ?_
     refine W_nil ?_
     refine N_code ?_
     refine C_seq_join (fun E wq => ∃ i16 : Int, cellarerlaw21_PlanRises.k4 r4 i16 = some r ∧ ∃ (F15 : Frz), E = [(3, ur4_0), (13, .int .i64 i16)] ∧ F12.le F15 ∧ St [] w F F15 [.row Read.t 39 ur4_0 r4.1] wq) ?_ ?_
     ·
      refine C_seq ?_
      refine C_region ?_
      refine W_assign rfl rfl ?_
      refine W_nil ?_
      refine N_code ?_
      refine C_block ?_
      refine C_loopM (fun (s : Int × Int) E wq => ∃ (F22 : Frz), E = [(3, ur4_0), (12, ur13_0), (13, .int .i64 s.1), (14, .int .i64 s.2)] ∧ F12.le F22 ∧ St [] w F F22 [.row tI 3 ur13_0 r13, .row Read.t 39 ur4_0 r4.1] wq) H ?_ ?_
      ·
       exact ⟨_, ⟨F12, rfl, (Frz.le.refl _), hS14⟩, ⟨rfl, rfl, rfl, rfl, trivial⟩⟩
      ·
       rintro rec25 ⟨i23, i24⟩ E w22 hI H
       try dsimp only at hI
       obtain ⟨F22, rfl, le22, hS22⟩ := hI
       dsimp only [cellarerlaw21_PlanRises.l5] at H
       refine C_seq ?_
       refine C_seq ?_
       refine C_region ?_
       refine W_move rfl rfl ?_
       refine W_move rfl rfl ?_
       refine W_lenv rfl Go.Proofs.Try.underlying22 rfl (hS22.rowLn (k := 0) rfl) ?_
       refine W_lss rfl rfl rfl ?_
       refine W_nil ?_
       refine N_code ?_
       refine C_cond rfl (fun hc26 => ?_) (fun hc26 => ?_)
       ·
        rw [if_t hc26] at H
        refine C_skip ?_
        refine N_code ?_
        refine C_seq_join (fun E wq => ∃ i28 : Int, cellarerlaw21_PlanRises.k6 i24 rec25 i28 = some r ∧ ∃ (F27 : Frz), E = [(3, ur4_0), (12, ur13_0), (13, .int .i64 i28), (14, .int .i64 i24)] ∧ F22.le F27 ∧ St [] w F F27 [.row tI 3 ur13_0 r13, .row Read.t 39 ur4_0 r4.1] wq) ?_ ?_
        ·
         refine C_block ?_
         refine C_seq ?_
         refine C_region ?_
         refine W_move rfl rfl ?_
         refine W_assign rfl rfl ?_
         refine W_nil ?_
         refine N_code ?_
         refine C_seq_join (fun E wq => ∃ i30 : Int, cellarerlaw21_PlanRises.k7 i23 i24 rec25 i30 = some r ∧ ∃ (F29 : Frz), E = [(3, ur4_0), (12, ur13_0), (13, .int .i64 i30), (14, .int .i64 i24), (15, .int .i64 i23)] ∧ F22.le F29 ∧ St [] w F F29 [.row tI 3 ur13_0 r13, .row Read.t 39 ur4_0 r4.1] wq) ?_ ?_
         ·
          refine C_block ?_
          refine C_loopM (fun (s : Int) E wq => ∃ (F32 : Frz), E = [(3, ur4_0), (12, ur13_0), (13, .int .i64 s), (14, .int .i64 i24), (15, .int .i64 i23)] ∧ F22.le F32 ∧ St [] w F F32 [.row tI 3 ur13_0 r13, .row Read.t 39 ur4_0 r4.1] wq) H ?_ ?_
          ·
           exact ⟨_, ⟨F22, rfl, (Frz.le.refl _), hS22⟩, ⟨rfl, rfl, rfl, rfl, rfl, trivial⟩⟩
          ·
           rintro rec34 i33 E w32 hI H
           try dsimp only at hI
           obtain ⟨F32, rfl, le32, hS32⟩ := hI
           dsimp only [cellarerlaw21_PlanRises.l8] at H
           refine C_seq ?_
           refine C_seq ?_
           obtain ⟨x35, hx35, H⟩ := bd_some H
           obtain ⟨x37, hx37, H⟩ := bd_some H
           refine C_join (fun E wq => E = [(3, ur4_0), (12, ur13_0), (13, .int .i64 i33), (14, .int .i64 i24), (15, .int .i64 i23), (205, .bool (decide (i33 < (r4.1.length : Int)) && decide (x35.loc.vol = x37)))] ∧ ∃ F39 : Frz, F32.le F39 ∧ St [] w F F39 [.row tI 3 ur13_0 r13, .row Read.t 39 ur4_0 r4.1] wq) ?_ ?_
           ·
            rcases Bool.eq_false_or_eq_true (decide (i33 < (r4.1.length : Int))) with hb40 | hb40
            ·
             have hy41 := hx35
             rw [only_t hb40] at hy41
             obtain ⟨hp42, hy42⟩ := ix_some hy41
             obtain ⟨cs42, hr42, he42⟩ := hS32.rowAt (k := 1) rfl hy42
             obtain rfl := hr42
             replace he42 : El _ _ 5 _ _ := he42
             have hy43 := hx37
             rw [only_t hb40] at hy43
             obtain ⟨hp44, hy44⟩ := ix_some hy43
             obtain ⟨cs44, hr44, he44⟩ := hS32.rowAt (k := 0) rfl hy44
             obtain rfl := hr44
             replace he44 : El _ _ 1 _ _ := he44
             apply C_draw 16 [[], [], [1], [0, 2], [3], [4], [4], [5, 6, 4], [7, 4], [8, 4], [9, 4], [4], [4], [11, 12, 4], [13, 4], [10, 14, 4]] [.val (.int .i64 i33), .val (ur4_0), .val (.int .i64 (r4.1.length : Int)), .val (.bool (decide (i33 < (r4.1.length : Int)))), .val (.bool true), .val (ur4_0), .val (.int .i64 i33), .val (elp ur4_0 (i33.toNat * 5)), .val (elp ur4_0 ((i33.toNat * 5) + 1)), .val (elp ur4_0 (((i33.toNat * 5) + 1) + 0)), .val (.int .i64 x35.loc.vol), .val (ur13_0), .val (.int .i64 i24), .val (elp ur13_0 (i24.toNat * 1)), .val (.int .i64 x37), .val (.bool (decide (x35.loc.vol = x37)))] Ty.mixed rfl rfl (by kernel_rfl) (by kernel_rfl) rfl
             ·
              refine ⟨?_, ?_, ?_, ?_, ?_, ?_, ?_, ?_, ?_, ?_, ?_, ?_, ?_, ?_, ?_, ?_, trivial⟩
              ·
               intro w45 vq45 hB45 hH45
               have hS45 := hS32.below hB45
               refine W_move rfl rfl ?_
               refine W_nil ?_
               exact N_step rfl rfl (Below.refl _ _)
              ·
               intro w46 vq46 hB46 hH46
               have hS46 := hS32.below hB46
               refine W_move rfl rfl ?_
               refine W_nil ?_
               exact N_step rfl rfl (Below.refl _ _)
              ·
               intro w47 vq47 hB47 hH47
               have hS47 := hS32.below hB47
               refine W_lenv rfl Go.Proofs.Try.underlying23 rfl (hS47.rowLn (k := 1) rfl) ?_
               refine W_nil ?_
               exact N_step rfl rfl (Below.refl _ _)
              ·
               intro w48 vq48 hB48 hH48
               have hS48 := hS32.below hB48
               refine W_lss rfl rfl rfl ?_
               refine W_nil ?_
               exact N_step rfl rfl (Below.refl _ _)
              ·
               intro w49 vq49 hB49 hH49
               have hS49 := hS32.below hB49
               refine W_move rfl rfl ?_
               refine W_nil ?_
               exact N_step rfl (congrArg Value.bool hb40) (Below.refl _ _)
              ·
               intro w50 vq50 hB50 hH50
               have hS50 := hS32.below hB50
               refine W_guard_yes rfl ?_
               refine W_move rfl rfl ?_
               refine W_nil ?_
               exact N_step rfl rfl (Below.refl _ _)
              ·
               intro w51 vq51 hB51 hH51
               have hS51 := hS32.below hB51
               refine W_guard_yes rfl ?_
               refine W_move rfl rfl ?_
               refine W_nil ?_
               exact N_step rfl rfl (Below.refl _ _)
              ·
               intro w52 vq52 hB52 hH52
               have hS52 := hS32.below hB52
               refine W_guard_yes rfl ?_
               refine W_ix rfl Go.Proofs.Try.underlying23 Ty.cells39 Ty.info39 rfl rfl (he42.below hB52) hp42 rfl ?_
               refine W_nil ?_
               exact N_step rfl rfl (Below.refl _ _)
              ·
               intro w53 vq53 hB53 hH53
               have hS53 := hS32.below hB53
               refine W_guard_yes rfl ?_
               refine W_fld 1 rfl Ty.field39_1 rfl (he42.below hB53) ?_
               refine W_nil ?_
               exact N_step rfl rfl (Below.refl _ _)
              ·
               intro w54 vq54 hB54 hH54
               have hS54 := hS32.below hB54
               refine W_guard_yes rfl ?_
               refine W_fld 0 rfl Ty.field37_0 rfl (he42.below hB54) ?_
               refine W_nil ?_
               exact N_step rfl rfl (Below.refl _ _)
              ·
               intro w55 vq55 hB55 hH55
               have hS55 := hS32.below hB55
               refine W_guard_yes rfl ?_
               refine W_ld1 1 rfl Ty.cell3 rfl (he42.below hB55) (by omega) rfl ?_
               refine W_nil ?_
               exact N_step rfl rfl (Below.refl _ _)
              ·
               intro w56 vq56 hB56 hH56
               have hS56 := hS32.below hB56
               refine W_guard_yes rfl ?_
               refine W_move rfl rfl ?_
               refine W_nil ?_
               exact N_step rfl rfl (Below.refl _ _)
              ·
               intro w57 vq57 hB57 hH57
               have hS57 := hS32.below hB57
               refine W_guard_yes rfl ?_
               refine W_move rfl rfl ?_
               refine W_nil ?_
               exact N_step rfl rfl (Below.refl _ _)
              ·
               intro w58 vq58 hB58 hH58
               have hS58 := hS32.below hB58
               refine W_guard_yes rfl ?_
               refine W_ix rfl Go.Proofs.Try.underlying22 Ty.cells3 Ty.info3 rfl rfl (he44.below hB58) hp44 rfl ?_
               refine W_nil ?_
               exact N_step rfl rfl (Below.refl _ _)
              ·
               intro w59 vq59 hB59 hH59
               have hS59 := hS32.below hB59
               refine W_guard_yes rfl ?_
               refine W_ld1 0 rfl Ty.cell3 rfl (he44.below hB59) (by omega) rfl ?_
               refine W_nil ?_
               exact N_step rfl rfl (Below.refl _ _)
              ·
               intro w60 vq60 hB60 hH60
               have hS60 := hS32.below hB60
               refine W_guard_yes rfl ?_
               refine W_eql rfl rfl rfl ?_
               refine W_nil ?_
               exact N_step rfl rfl (Below.refl _ _)
             intro w61 vq61 hB61 hH61
             have hS61 := hS32.below hB61
             refine W_pick_t rfl rfl rfl ?_
             refine W_nil ?_
             exact N_join _ ⟨rfl, F32, (Frz.le.refl _), hS61⟩ ⟨rfl, rfl, rfl, rfl, rfl, (look_bool rfl (by first | rfl | (rw [hb40]; first | done | rfl) | simp [hb40])), trivial⟩
            ·
             apply C_draw 16 [[], [], [1], [0, 2], [3], [4], [4], [5, 6, 4], [7, 4], [8, 4], [9, 4], [4], [4], [11, 12, 4], [13, 4], [10, 14, 4]] [.val (.int .i64 i33), .val (ur4_0), .val (.int .i64 (r4.1.length : Int)), .val (.bool (decide (i33 < (r4.1.length : Int)))), .val (.bool false), .val undef, .val undef, .val undef, .val undef, .val undef, .val undef, .val undef, .val undef, .val undef, .val undef, .val undef] Ty.mixed rfl rfl (by kernel_rfl) (by kernel_rfl) rfl
             ·
              refine ⟨?_, ?_, ?_, ?_, ?_, ?_, ?_, ?_, ?_, ?_, ?_, ?_, ?_, ?_, ?_, ?_, trivial⟩
              ·
               intro w62 vq62 hB62 hH62
               have hS62 := hS32.below hB62
               refine W_move rfl rfl ?_
               refine W_nil ?_
               exact N_step rfl rfl (Below.refl _ _)
              ·
               intro w63 vq63 hB63 hH63
               have hS63 := hS32.below hB63
               refine W_move rfl rfl ?_
               refine W_nil ?_
               exact N_step rfl rfl (Below.refl _ _)
              ·
               intro w64 vq64 hB64 hH64
               have hS64 := hS32.below hB64
               refine W_lenv rfl Go.Proofs.Try.underlying23 rfl (hS64.rowLn (k := 1) rfl) ?_
               refine W_nil ?_
               exact N_step rfl rfl (Below.refl _ _)
              ·
               intro w65 vq65 hB65 hH65
               have hS65 := hS32.below hB65
               refine W_lss rfl rfl rfl ?_
               refine W_nil ?_
               exact N_step rfl rfl (Below.refl _ _)
              ·
               intro w66 vq66 hB66 hH66
               have hS66 := hS32.below hB66
               refine W_move rfl rfl ?_
               refine W_nil ?_
               exact N_step rfl (congrArg Value.bool hb40) (Below.refl _ _)
              ·
               intro w67 vq67 hB67 hH67
               have hS67 := hS32.below hB67
               refine W_guard_no rfl rfl rfl rfl rfl ?_
               refine W_nil ?_
               exact N_step rfl rfl (Below.refl _ _)
              ·
               intro w68 vq68 hB68 hH68
               have hS68 := hS32.below hB68
               refine W_guard_no rfl rfl rfl rfl rfl ?_
               refine W_nil ?_
               exact N_step rfl rfl (Below.refl _ _)
              ·
               intro w69 vq69 hB69 hH69
               have hS69 := hS32.below hB69
               refine W_guard_no rfl rfl rfl rfl rfl ?_
               refine W_nil ?_
               exact N_step rfl rfl (Below.refl _ _)
              ·
               intro w70 vq70 hB70 hH70
               have hS70 := hS32.below hB70
               refine W_guard_no rfl rfl rfl rfl rfl ?_
               refine W_nil ?_
               exact N_step rfl rfl (Below.refl _ _)
              ·
               intro w71 vq71 hB71 hH71
               have hS71 := hS32.below hB71
               refine W_guard_no rfl rfl rfl rfl rfl ?_
               refine W_nil ?_
               exact N_step rfl rfl (Below.refl _ _)
              ·
               intro w72 vq72 hB72 hH72
               have hS72 := hS32.below hB72
               refine W_guard_no rfl rfl rfl rfl rfl ?_
               refine W_nil ?_
               exact N_step rfl rfl (Below.refl _ _)
              ·
               intro w73 vq73 hB73 hH73
               have hS73 := hS32.below hB73
               refine W_guard_no rfl rfl rfl rfl rfl ?_
               refine W_nil ?_
               exact N_step rfl rfl (Below.refl _ _)
              ·
               intro w74 vq74 hB74 hH74
               have hS74 := hS32.below hB74
               refine W_guard_no rfl rfl rfl rfl rfl ?_
               refine W_nil ?_
               exact N_step rfl rfl (Below.refl _ _)
              ·
               intro w75 vq75 hB75 hH75
               have hS75 := hS32.below hB75
               refine W_guard_no rfl rfl rfl rfl rfl ?_
               refine W_nil ?_
               exact N_step rfl rfl (Below.refl _ _)
              ·
               intro w76 vq76 hB76 hH76
               have hS76 := hS32.below hB76
               refine W_guard_no rfl rfl rfl rfl rfl ?_
               refine W_nil ?_
               exact N_step rfl rfl (Below.refl _ _)
              ·
               intro w77 vq77 hB77 hH77
               have hS77 := hS32.below hB77
               refine W_guard_no rfl rfl rfl rfl rfl ?_
               refine W_nil ?_
               exact N_step rfl rfl (Below.refl _ _)
             intro w78 vq78 hB78 hH78
             have hS78 := hS32.below hB78
             refine W_pick_f rfl rfl rfl ?_
             refine W_nil ?_
             exact N_join _ ⟨rfl, F32, (Frz.le.refl _), hS78⟩ ⟨rfl, rfl, rfl, rfl, rfl, (look_bool rfl (by first | rfl | (rw [hb40]; first | done | rfl) | simp [hb40])), trivial⟩
           rintro E w39 ⟨rfl, F39, le39, hS39⟩
           refine N_code ?_
           refine C_cond rfl (fun hc79 => ?_) (fun hc79 => ?_)
           ·
            rw [if_t hc79] at H
            refine C_skip ?_
            refine N_code ?_
            refine C_block ?_
            refine C_region ?_
            refine W_move rfl rfl ?_
            refine W_add rfl rfl rfl rfl ?_
            refine W_assign rfl rfl ?_
            refine W_nil ?_
            refine N_block ?_
            exact N_againM (wr (i33 + 1)) _ H ⟨F39, rfl, (le32.trans le39), hS39⟩ ⟨rfl, rfl, rfl, rfl, rfl, trivial⟩
           ·
            rw [if_f hc79] at H
            refine C_exit _ rfl ?_
            exact N_join _ ⟨i33, H, ⟨F39, rfl, (le32.trans le39), hS39⟩⟩ ⟨rfl, rfl, rfl, rfl, rfl, trivial⟩
         ·
          rintro E w29 ⟨i30, H, F29, rfl, le29, hS29⟩
          dsimp only [cellarerlaw21_PlanRises.k7] at H
          refine C_seq ?_
          refine C_region ?_
          refine W_move rfl rfl ?_
          refine W_move rfl rfl ?_
          refine W_eql rfl rfl rfl ?_
          refine W_nil ?_
          refine N_code ?_
          refine C_cond rfl (fun hc31 => ?_) (fun hc31 => ?_)
          ·
           rw [if_t hc31] at H
           refine C_seq ?_
           refine C_region ?_
           refine W_assign rfl rfl ?_
           refine W_nil ?_
           refine N_code ?_
           obtain rfl := Option.some.inj H
           refine C_ret rfl rfl ?_
           exact ⟨F29, rfl, hS29.pick [] (by decide)⟩
          ·
           rw [if_f hc31] at H
           refine C_skip ?_
           refine N_block ?_
           exact N_join _ ⟨i30, H, ⟨F29, rfl, le29, hS29⟩⟩ ⟨rfl, rfl, rfl, rfl, trivial⟩
        ·
         rintro E w27 ⟨i28, H, F27, rfl, le27, hS27⟩
         dsimp only [cellarerlaw21_PlanRises.k6] at H
         refine C_region ?_
         refine W_move rfl rfl ?_
         refine W_add rfl rfl rfl rfl ?_
         refine W_assign rfl rfl ?_
         refine W_nil ?_
         exact N_againM (i28, wr (i24 + 1)) _ H ⟨F27, rfl, (le22.trans le27), hS27⟩ ⟨rfl, rfl, rfl, rfl, trivial⟩
       ·
        rw [if_f hc26] at H
        refine C_exit _ rfl ?_
        exact N_join _ ⟨i23, H, ⟨F22, rfl, le22, hS22.pick [1] (by decide)⟩⟩ ⟨rfl, rfl, trivial⟩
     ·
      rintro E w15 ⟨i16, H, F15, rfl, le15, hS15⟩
      dsimp only [cellarerlaw21_PlanRises.k4] at H
      refine C_seq ?_
      obtain ⟨r17, hr17, H⟩ := bd_some H
      refine C_join (fun E wq => E = [(2, .bool (decide (i16 = (r4.1.length : Int)) && r17))] ∧ ∃ F18 : Frz, F15.le F18 ∧ St [] w F F18 [.row Read.t 39 ur4_0 r4.1] wq) ?_ ?_
      ·
       rcases Bool.eq_false_or_eq_true (decide (i16 = (r4.1.length : Int))) with hb19 | hb19
       ·
        refine C_region ?_
        refine W_move rfl rfl ?_
        refine W_move rfl rfl ?_
        refine W_lenv rfl Go.Proofs.Try.underlying23 rfl (hS15.rowLn (k := 0) rfl) ?_
        refine W_eql rfl rfl rfl ?_
        refine W_move rfl rfl ?_
        refine W_known (t := 215) true rfl hb19 ?_
        refine W_guard_yes rfl ?_
        have hy20 := hr17
        rw [only_t hb19] at hy20
        refine W_call rfl Ty.named30 rfl (cellarerlaw21_wakes_ok hS15.agree hy20) ?_
        rintro v21 w21 ⟨Fr17, rfl, hT21⟩
        have hS21 := hS15.lent hT21
        refine W_pick_t rfl rfl rfl ?_
        refine W_assign rfl rfl ?_
        refine W_nil ?_
        exact N_join _ ⟨rfl, F15, (Frz.le.refl _), hS21⟩ ⟨(look_bool rfl (by first | rfl | (rw [hb19]; first | done | rfl) | simp [hb19])), trivial⟩
       ·
        refine C_region ?_
        refine W_move rfl rfl ?_
        refine W_move rfl rfl ?_
        refine W_lenv rfl Go.Proofs.Try.underlying23 rfl (hS15.rowLn (k := 0) rfl) ?_
        refine W_eql rfl rfl rfl ?_
        refine W_move rfl rfl ?_
        refine W_known (t := 215) false rfl hb19 ?_
        refine W_guard_no rfl rfl rfl rfl rfl ?_
        refine W_pick_f rfl rfl rfl ?_
        refine W_assign rfl rfl ?_
        refine W_nil ?_
        exact N_join _ ⟨rfl, F15, (Frz.le.refl _), hS15⟩ ⟨(look_bool rfl (by first | rfl | (rw [hb19]; first | done | rfl) | simp [hb19])), trivial⟩
      rintro E w18 ⟨rfl, F18, le18, hS18⟩
      refine N_code ?_
      obtain rfl := Option.some.inj H
      refine C_ret rfl rfl ?_
      exact ⟨F18, rfl, hS18.pick [] (by decide)⟩

end Go.Wk.Lf
