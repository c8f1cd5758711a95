import Derived.Test.YtahfmkjafddjhaaLfB
namespace Go.Wk.Lf
open Go.Proofs Go.RowKit
set_option linter.unusedVariables false

def cellarerlaw21_PlanRises.k4 (r4 : (List Read) × (List Int)) (i17 : Int) : Option Bool :=
  bd (only (decide (i17 = (r4.1.length : Int))) (cellarerlaw21_wakes) false) fun r18 =>
  some (decide (i17 = (r4.1.length : Int)) && r18)


def cellarerlaw21_PlanRises.k6 (i25 : Int) (rec26 : (Int × Int) → Option Bool) (i29 : Int) : Option Bool :=
  rec26 (i29, wr (i25 + 1))


def cellarerlaw21_PlanRises.k7 (i24 : Int) (i25 : Int) (rec26 : (Int × Int) → Option Bool) (i31 : Int) : Option Bool :=
  if decide (i31 = i24) then
    some false
  else
    cellarerlaw21_PlanRises.k6 i25 rec26 i31


def cellarerlaw21_PlanRises.l8 (r4 : (List Read) × (List Int)) (r13 : (List Int)) (i24 : Int) (i25 : Int) (rec26 : (Int × Int) → Option Bool) (rec35 : Int → Option Bool) : Int → Option Bool
  | i34 =>
    bd (only (decide (i34 < (r4.1.length : Int))) (ix r4.1 i34) (Read.mk 0 (Loc.mk 0 0 0 0))) fun x36 =>
    bd (only (decide (i34 < (r4.1.length : Int))) (ix r13 i25) 0) fun x38 =>
    if (decide (i34 < (r4.1.length : Int)) && decide (x36.loc.vol = x38)) then
      rec35 (wr (i34 + 1))
    else
      cellarerlaw21_PlanRises.k7 i24 i25 rec26 i34


def cellarerlaw21_PlanRises.l5 (r4 : (List Read) × (List Int)) (r13 : (List Int)) (rec26 : (Int × Int) → Option Bool) : (Int × Int) → Option Bool
  | (i24, i25) =>
    if decide (i25 < (r13.length : Int)) then
      loop (cellarerlaw21_PlanRises.l8 r4 r13 i24 i25 rec26) i24
    else
      cellarerlaw21_PlanRises.k4 r4 i24


def cellarerlaw21_PlanRises.k3 (r4 : (List Read) × (List Int)) : Option Bool :=
  bd (plan_Vols r4.1) fun r13 =>
  loop (cellarerlaw21_PlanRises.l5 r4 r13) (0, 0)


def cellarerlaw21_PlanRises.l9 (r4 : (List Read) × (List Int)) (l11 : List Int) (rec83 : Int → Option Bool) : Int → Option Bool
  | i82 =>
    if decide (i82 < (l11.length : Int)) then
      bd (ix l11 i82) fun x85 =>
      if decide (x85 ≠ 1) then
        some false
      else
        rec83 (wr (i82 + 1))
    else
      cellarerlaw21_PlanRises.k3 r4


def cellarerlaw21_PlanRises.k2 (r4 : (List Read) × (List Int)) (l11 : List Int) : Option Bool :=
  loop (cellarerlaw21_PlanRises.l9 r4 l11) 0


def cellarerlaw21_PlanRises.l10 (x0 : List Want) (r4 : (List Read) × (List Int)) (rec92 : (Int × (List Int)) → Option Bool) : (Int × (List Int)) → Option Bool
  | (i90, l91) =>
    if decide (i90 < (r4.2.length : Int)) then
      bd (ix r4.2 i90) fun x94 =>
      bd (only (!decide (x94 < 0)) (ix r4.2 i90) 0) fun x96 =>
      bd (only (!(decide (x94 < 0) || decide ((x0.length : Int) ≤ x96))) (ix r4.2 i90) 0) fun x98 =>
      bd (only (!(decide (x94 < 0) || decide ((x0.length : Int) ≤ x96))) (ix x0 x98) (Want.mk (List.replicate 32 0) [])) fun x100 =>
      bd (only ((!((decide (x94 < 0) || decide ((x0.length : Int) ≤ x96)) || decide (0 < (x100.locs.length : Int)))) && decide (0 < i90)) (ix r4.2 i90) 0) fun x102 =>
      bd (only ((!((decide (x94 < 0) || decide ((x0.length : Int) ≤ x96)) || decide (0 < (x100.locs.length : Int)))) && decide (0 < i90)) (ix r4.2 (wr (i90 - 1))) 0) fun x104 =>
      if (((decide (x94 < 0) || decide ((x0.length : Int) ≤ x96)) || decide (0 < (x100.locs.length : Int))) || (decide (0 < i90) && decide (x102 ≤ x104))) then
        some false
      else
        bd (ix r4.2 i90) fun x351 =>
        bd (ix l91 x351) fun x353 =>
        rec92 (wr (i90 + 1), (l91.set x351.toNat (wr (x353 + 1))))
    else
      cellarerlaw21_PlanRises.k2 r4 l91


def cellarerlaw21_PlanRises.k1 (x0 : List Want) (r4 : (List Read) × (List Int)) (l9 : List Int) : Option Bool :=
  loop (cellarerlaw21_PlanRises.l10 x0 r4) (0, l9)


def cellarerlaw21_PlanRises.k12 (i360 : Int) (rec362 : (Int × (List Int)) → Option Bool) (l365 : List Int) : Option Bool :=
  rec362 (wr (i360 + 1), l365)


def cellarerlaw21_PlanRises.k13 (i360 : Int) (l361 : List Int) (rec362 : (Int × (List Int)) → Option Bool) (x366 : Read) (x489 : Int) (b495 : Bool) : Option Bool :=
  if (!b495) then
    some false
  else
    cellarerlaw21_PlanRises.k12 i360 rec362 (l361.set x366.want.toNat (wr (x489 + 1)))


def cellarerlaw21_PlanRises.l14 (x0 : List Want) (r4 : (List Read) × (List Int)) (i360 : Int) (l361 : List Int) (rec362 : (Int × (List Int)) → Option Bool) (x366 : Read) (x489 : Int) (rec500 : (Bool × Int) → Option Bool) : (Bool × Int) → Option Bool
  | (b498, i499) =>
    bd (ix x0 x366.want) fun x501 =>
    if decide (i499 < (x501.locs.length : Int)) then
      bd (only (!b498) (ix x0 x366.want) (Want.mk (List.replicate 32 0) [])) fun x505 =>
      bd (only (!b498) (ix x505.locs i499) (Loc.mk 0 0 0 0)) fun x507 =>
      bd (only (!b498) (ix r4.1 i360) (Read.mk 0 (Loc.mk 0 0 0 0))) fun x509 =>
      bd (only (!b498) (cellarerkeep_Loc x507 x509.loc) false) fun r511 =>
      bd (ix x0 x366.want) fun x556 =>
      bd (ix x556.locs i499) fun x558 =>
      bd (ix r4.1 i360) fun x560 =>
      bd (plan_Ahead x558 x560.loc) fun r562 =>
      if r562 then
        some false
      else
        rec500 ((b498 || r511), wr (i499 + 1))
    else
      cellarerlaw21_PlanRises.k13 i360 l361 rec362 x366 x489 b498


def cellarerlaw21_PlanRises.l11 (x0 : List Want) (r4 : (List Read) × (List Int)) (rec362 : (Int × (List Int)) → Option Bool) : (Int × (List Int)) → Option Bool
  | (i360, l361) =>
    if decide (i360 < (r4.1.length : Int)) then
      bd (ix r4.1 i360) fun x366 =>
      bd (only ((!(decide (x366.want < 0) || decide ((x0.length : Int) ≤ x366.want))) && decide (0 < i360)) (ix r4.1 i360) (Read.mk 0 (Loc.mk 0 0 0 0))) fun x369 =>
      bd (only ((!(decide (x366.want < 0) || decide ((x0.length : Int) ≤ x366.want))) && decide (0 < i360)) (ix r4.1 (wr (i360 - 1))) (Read.mk 0 (Loc.mk 0 0 0 0))) fun x371 =>
      bd (only ((!(decide (x366.want < 0) || decide ((x0.length : Int) ≤ x366.want))) && decide (0 < i360)) (plan_Ahead x369.loc x371.loc) false) fun r373 =>
      if ((decide (x366.want < 0) || decide ((x0.length : Int) ≤ x366.want)) || (decide (0 < i360) && r373)) then
        some false
      else
        bd (ix l361 x366.want) fun x489 =>
        loop (cellarerlaw21_PlanRises.l14 x0 r4 i360 l361 rec362 x366 x489) (false, 0)
    else
      cellarerlaw21_PlanRises.k1 x0 r4 l361

def cellarerlaw21_PlanRises (x0 : List Want) : Option Bool :=
  bd (cellarerlaw21_Heavy x0) fun r1 =>
  if r1 then
    some true
  else
    bd (plan_Order x0) fun r4 =>
    bd (rep (x0.length : Int) 0) fun l6 =>
    loop (cellarerlaw21_PlanRises.l11 x0 r4) (0, l6)

theorem cellarerlaw21_PlanRises_ok {F : Frz} {w : World} {x0 : List Want} {r : Bool} {v0 : Value} (hA : Agree F w.heap) (h0 : SlF Want.t F v0 x0) (H : cellarerlaw21_PlanRises x0 = some r) : Ret Try.prog 13 #[v0] w fun v w' => ∃ (F' : Frz), v = .bool r ∧ St [] w F F' [] w' := by
 refine Ret_of (args := [v0]) Go.Proofs.Try.func13 rfl rfl ?_
 change C _ _ _ _ [(0, v0)] _
 have hS := St.entry hA
 dsimp only [cellarerlaw21_PlanRises] at H
 refine C_seq ?_
 refine C_region ?_
 refine W_assign rfl rfl ?_
 refine W_nil ?_
 refine N_code ?_
 refine C_seq ?_
 refine C_seq ?_
 obtain ⟨r1, hr1, H⟩ := bd_some H
 refine C_region ?_
 refine W_move rfl rfl ?_
 refine W_call rfl Ty.named26 rfl (cellarerlaw21_Heavy_ok hS.agree h0 hr1) ?_
 rintro v2 w2 ⟨Fr1, rfl, hT2⟩
 have hS2 := hS.lent hT2
 refine W_nil ?_
 refine N_code ?_
 refine C_cond rfl (fun hc3 => ?_) (fun hc3 => ?_)
 ·
  rw [if_t hc3] at H
  refine C_seq ?_
  refine C_region ?_
  refine W_assign rfl rfl ?_
  refine W_nil ?_
  refine N_code ?_
  obtain rfl := Option.some.inj H
  refine C_ret rfl rfl ?_
  exact ⟨F, rfl, hS2⟩
 ·
  rw [if_f hc3] at H
  refine C_skip ?_
  refine N_code ?_
  refine C_seq ?_
  obtain ⟨r4, hr4, H⟩ := bd_some H
  refine C_region ?_
  refine W_move rfl rfl ?_
  refine W_call rfl Ty.named27 rfl (plan_Order_ok hS2.agree h0 hr4) ?_
  rintro v5 w5 ⟨Fr4, ur4_0, ur4_1, rfl, hT5⟩
  have hS5 := hS2.call hT5
  have ler4 := hT5.ext
  refine W_move rfl rfl ?_
  refine W_extract rfl rfl rfl ?_
  refine W_extract rfl rfl rfl ?_
  refine W_assign rfl rfl ?_
  refine W_assign rfl rfl ?_
  refine W_nil ?_
  refine N_code ?_
  refine C_seq ?_
  obtain ⟨l6, hl6, H⟩ := bd_some H
  refine C_region ?_
  refine W_move rfl rfl ?_
  refine W_lenv rfl Go.Proofs.Try.underlying47 rfl h0.ln ?_
  refine W_mk (t := tI) (x0 := 0) rfl Go.Proofs.Try.underlying22 Ty.row3 rfl rfl rfl rfl hS5 rfl hl6 ?_
  intro v7 w7 hS7
  refine W_assign rfl rfl ?_
  refine W_nil ?_
  refine N_code ?_
  refine C_seq_join (fun E wq => ∃ l9 : List Int, cellarerlaw21_PlanRises.k1 x0 r4 l9 = some r ∧ ∃ (F8 : Frz), E = [(0, v0), (3, ur4_0), (4, ur4_1), (5, v7)] ∧ Fr4.le F8 ∧ St [] w F F8 [.row tI 3 v7 l9, .row Read.t 39 ur4_0 r4.1, .row tI 3 ur4_1 r4.2] wq) ?_ ?_
  ·
   refine C_seq ?_
   refine C_region ?_
   refine W_assign rfl rfl ?_
   refine W_nil ?_
   refine N_code ?_
   refine C_block ?_
   refine C_loopM (fun (s : Int × (List Int)) E wq => ∃ (F359 : Frz), E = [(0, v0), (3, ur4_0), (4, ur4_1), (5, v7), (6, .int .i64 s.1)] ∧ Fr4.le F359 ∧ St [] w F F359 [.row tI 3 v7 s.2, .row Read.t 39 ur4_0 r4.1, .row tI 3 ur4_1 r4.2] wq) H ?_ ?_
   ·
    exact ⟨_, ⟨Fr4, rfl, (Frz.le.refl _), hS7⟩, ⟨rfl, rfl, rfl, rfl, rfl, trivial⟩⟩
   ·
    rintro rec362 ⟨i360, l361⟩ E w359 hI H
    try dsimp only at hI
    obtain ⟨F359, rfl, le359, hS359⟩ := hI
    dsimp only [cellarerlaw21_PlanRises.l11] at H
    refine C_seq ?_
    refine C_seq ?_
    refine C_region ?_
    refine W_move rfl rfl ?_
    refine W_move rfl rfl ?_
    refine W_lenv rfl Go.Proofs.Try.underlying23 rfl (hS359.rowLn (k := 1) rfl) ?_
    refine W_lss rfl rfl rfl ?_
    refine W_nil ?_
    refine N_code ?_
    refine C_cond rfl (fun hc363 => ?_) (fun hc363 => ?_)
    ·
     rw [if_t hc363] at H
     refine C_skip ?_
     refine N_code ?_
     refine C_seq_join (fun E wq => ∃ l365 : List Int, cellarerlaw21_PlanRises.k12 i360 rec362 l365 = some r ∧ ∃ (F364 : Frz), E = [(0, v0), (3, ur4_0), (4, ur4_1), (5, v7), (6, .int .i64 i360)] ∧ F359.le F364 ∧ St [] w F F364 [.row tI 3 v7 l365, .row Read.t 39 ur4_0 r4.1, .row tI 3 ur4_1 r4.2] wq) ?_ ?_
     ·
      refine C_block ?_
      refine C_seq ?_
      obtain ⟨x366, hx366, H⟩ := bd_some H
      refine C_region ?_
      refine W_move rfl rfl ?_
      refine W_move rfl rfl ?_
      obtain ⟨hp368, hy368⟩ := ix_some hx366
      obtain ⟨cs368, hr368, he368⟩ := hS359.rowAt (k := 1) rfl hy368
      obtain rfl := hr368
      replace he368 : El _ _ 5 _ _ := he368
      refine W_ix rfl Go.Proofs.Try.underlying23 Ty.cells39 Ty.info39 rfl rfl he368 hp368 rfl ?_
      refine W_fld 0 rfl Ty.field39_0 rfl he368 ?_
      refine W_ld1 0 rfl Ty.cell3 rfl he368 (by omega) rfl ?_
      refine W_assign rfl rfl ?_
      refine W_nil ?_
      refine N_code ?_
      refine C_seq ?_
      refine C_seq ?_
      obtain ⟨x369, hx369, H⟩ := bd_some H
      obtain ⟨x371, hx371, H⟩ := bd_some H
      obtain ⟨r373, hr373, H⟩ := bd_some H
      refine C_join (fun E wq => E = [(0, v0), (3, ur4_0), (4, ur4_1), (5, v7), (6, .int .i64 i360), (7, .int .i64 x366.want), (62, .bool ((decide (x366.want < 0) || decide ((x0.length : Int) ≤ x366.want)) || (decide (0 < i360) && r373)))] ∧ ∃ F374 : Frz, F359.le F374 ∧ St [] w F F374 [.row tI 3 v7 l361, .row Read.t 39 ur4_0 r4.1, .row tI 3 ur4_1 r4.2] wq) ?_ ?_
      ·
       rcases Bool.eq_false_or_eq_true (decide (x366.want < 0)) with hb375 | hb375
       ·
        apply C_draw 25 [[], [0], [1], [2], [2], [4, 2], [3, 5, 2], [2, 6], [7], [8], [9, 8], [10, 8], [11], [11], [12, 13, 11], [14, 11], [15, 11], [11], [11], [18, 11], [17, 19, 11], [20, 11], [21, 11], [16, 22, 11], [11, 23, 8]] [.val (.int .i64 x366.want), .val (.bool (decide (x366.want < 0))), .val (.bool true), .val undef, .val undef, .val undef, .val undef, .val (.bool true), .val (.bool true), .val undef, .val undef, .val undef, .val undef, .val undef, .val undef, .val undef, .val undef, .val undef, .val undef, .val undef, .val undef, .val undef, .val undef, .val undef, .val undef] Ty.mixed rfl rfl (by kernel_rfl) (by kernel_rfl) rfl
        ·
         refine ⟨?_, ?_, ?_, ?_, ?_, ?_, ?_, ?_, ?_, ?_, ?_, ?_, ?_, ?_, ?_, ?_, ?_, ?_, ?_, ?_, ?_, ?_, ?_, ?_, ?_, trivial⟩
         ·
          intro w376 vq376 hB376 hH376
          have hS376 := hS359.below hB376
          refine W_move rfl rfl ?_
          refine W_nil ?_
          exact N_step rfl rfl (Below.refl _ _)
         ·
          intro w377 vq377 hB377 hH377
          have hS377 := hS359.below hB377
          refine W_lss rfl rfl rfl ?_
          refine W_nil ?_
          exact N_step rfl rfl (Below.refl _ _)
         ·
          intro w378 vq378 hB378 hH378
          have hS378 := hS359.below hB378
          refine W_move rfl rfl ?_
          refine W_nil ?_
          exact N_step rfl (congrArg Value.bool hb375) (Below.refl _ _)
         ·
          intro w379 vq379 hB379 hH379
          have hS379 := hS359.below hB379
          refine W_guard_no rfl rfl rfl rfl rfl ?_
          refine W_nil ?_
          exact N_step rfl rfl (Below.refl _ _)
         ·
          intro w380 vq380 hB380 hH380
          have hS380 := hS359.below hB380
          refine W_guard_no rfl rfl rfl rfl rfl ?_
          refine W_nil ?_
          exact N_step rfl rfl (Below.refl _ _)
         ·
          intro w381 vq381 hB381 hH381
          have hS381 := hS359.below hB381
          refine W_guard_no rfl rfl rfl rfl rfl ?_
          refine W_nil ?_
          exact N_step rfl rfl (Below.refl _ _)
         ·
          intro w382 vq382 hB382 hH382
          have hS382 := hS359.below hB382
          refine W_guard_no rfl rfl rfl rfl rfl ?_
          refine W_nil ?_
          exact N_step rfl rfl (Below.refl _ _)
         ·
          intro w383 vq383 hB383 hH383
          have hS383 := hS359.below hB383
          refine W_pick_t rfl rfl rfl ?_
          refine W_nil ?_
          exact N_step rfl rfl (Below.refl _ _)
         ·
          intro w384 vq384 hB384 hH384
          have hS384 := hS359.below hB384
          refine W_move rfl rfl ?_
          refine W_nil ?_
          exact N_step rfl rfl (Below.refl _ _)
         ·
          intro w385 vq385 hB385 hH385
          have hS385 := hS359.below hB385
          refine W_guard_no rfl rfl rfl rfl rfl ?_
          refine W_nil ?_
          exact N_step rfl rfl (Below.refl _ _)
         ·
          intro w386 vq386 hB386 hH386
          have hS386 := hS359.below hB386
          refine W_guard_no rfl rfl rfl rfl rfl ?_
          refine W_nil ?_
          exact N_step rfl rfl (Below.refl _ _)
         ·
          intro w387 vq387 hB387 hH387
          have hS387 := hS359.below hB387
          refine W_guard_no rfl rfl rfl rfl rfl ?_
          refine W_nil ?_
          exact N_step rfl rfl (Below.refl _ _)
         ·
          intro w388 vq388 hB388 hH388
          have hS388 := hS359.below hB388
          refine W_guard_un rfl rfl rfl rfl ?_
          refine W_nil ?_
          exact N_step rfl rfl (Below.refl _ _)
         ·
          intro w389 vq389 hB389 hH389
          have hS389 := hS359.below hB389
          refine W_guard_un rfl rfl rfl rfl ?_
          refine W_nil ?_
          exact N_step rfl rfl (Below.refl _ _)
         ·
          intro w390 vq390 hB390 hH390
          have hS390 := hS359.below hB390
          refine W_guard_un rfl rfl rfl rfl ?_
          refine W_nil ?_
          exact N_step rfl rfl (Below.refl _ _)
         ·
          intro w391 vq391 hB391 hH391
          have hS391 := hS359.below hB391
          refine W_guard_un rfl rfl rfl rfl ?_
          refine W_nil ?_
          exact N_step rfl rfl (Below.refl _ _)
         ·
          intro w392 vq392 hB392 hH392
          have hS392 := hS359.below hB392
          refine W_guard_un rfl rfl rfl rfl ?_
          refine W_nil ?_
          exact N_step rfl rfl (Below.refl _ _)
         ·
          intro w393 vq393 hB393 hH393
          have hS393 := hS359.below hB393
          refine W_guard_un rfl rfl rfl rfl ?_
          refine W_nil ?_
          exact N_step rfl rfl (Below.refl _ _)
         ·
          intro w394 vq394 hB394 hH394
          have hS394 := hS359.below hB394
          refine W_guard_un rfl rfl rfl rfl ?_
          refine W_nil ?_
          exact N_step rfl rfl (Below.refl _ _)
         ·
          intro w395 vq395 hB395 hH395
          have hS395 := hS359.below hB395
          refine W_guard_un rfl rfl rfl rfl ?_
          refine W_nil ?_
          exact N_step rfl rfl (Below.refl _ _)
         ·
          intro w396 vq396 hB396 hH396
          have hS396 := hS359.below hB396
          refine W_guard_un rfl rfl rfl rfl ?_
          refine W_nil ?_
          exact N_step rfl rfl (Below.refl _ _)
         ·
          intro w397 vq397 hB397 hH397
          have hS397 := hS359.below hB397
          refine W_guard_un rfl rfl rfl rfl ?_
          refine W_nil ?_
          exact N_step rfl rfl (Below.refl _ _)
         ·
          intro w398 vq398 hB398 hH398
          have hS398 := hS359.below hB398
          refine W_guard_un rfl rfl rfl rfl ?_
          refine W_nil ?_
          exact N_step rfl rfl (Below.refl _ _)
         ·
          intro w399 vq399 hB399 hH399
          have hS399 := hS359.below hB399
          refine W_guard_un rfl rfl rfl rfl ?_
          refine W_nil ?_
          exact N_step rfl rfl (Below.refl _ _)
         ·
          intro w400 vq400 hB400 hH400
          have hS400 := hS359.below hB400
          refine W_guard_no rfl rfl rfl rfl rfl ?_
          refine W_nil ?_
          exact N_step rfl rfl (Below.refl _ _)
        intro w401 vq401 hB401 hH401
        have hS401 := hS359.below hB401
        refine W_pick_t rfl rfl rfl ?_
        refine W_nil ?_
        exact N_join _ ⟨rfl, F359, (Frz.le.refl _), hS401⟩ ⟨rfl, rfl, rfl, rfl, rfl, rfl, (look_bool rfl (by first | rfl | (rw [hb375]; first | done | rfl) | simp [hb375])), trivial⟩
       ·
        rcases Bool.eq_false_or_eq_true (decide ((x0.length : Int) ≤ x366.want)) with hb402 | hb402
        ·
         apply C_draw 25 [[], [0], [1], [2], [2], [4, 2], [3, 5, 2], [2, 6], [7], [8], [9, 8], [10, 8], [11], [11], [12, 13, 11], [14, 11], [15, 11], [11], [11], [18, 11], [17, 19, 11], [20, 11], [21, 11], [16, 22, 11], [11, 23, 8]] [.val (.int .i64 x366.want), .val (.bool (decide (x366.want < 0))), .val (.bool false), .val (.int .i64 x366.want), .val (v0), .val (.int .i64 (x0.length : Int)), .val (.bool (decide ((x0.length : Int) ≤ x366.want))), .val (.bool (decide ((x0.length : Int) ≤ x366.want))), .val (.bool true), .val undef, .val undef, .val undef, .val undef, .val undef, .val undef, .val undef, .val undef, .val undef, .val undef, .val undef, .val undef, .val undef, .val undef, .val undef, .val undef] Ty.mixed rfl rfl (by kernel_rfl) (by kernel_rfl) rfl
         ·
          refine ⟨?_, ?_, ?_, ?_, ?_, ?_, ?_, ?_, ?_, ?_, ?_, ?_, ?_, ?_, ?_, ?_, ?_, ?_, ?_, ?_, ?_, ?_, ?_, ?_, ?_, trivial⟩
          ·
           intro w403 vq403 hB403 hH403
           have hS403 := hS359.below hB403
           refine W_move rfl rfl ?_
           refine W_nil ?_
           exact N_step rfl rfl (Below.refl _ _)
          ·
           intro w404 vq404 hB404 hH404
           have hS404 := hS359.below hB404
           refine W_lss rfl rfl rfl ?_
           refine W_nil ?_
           exact N_step rfl rfl (Below.refl _ _)
          ·
           intro w405 vq405 hB405 hH405
           have hS405 := hS359.below hB405
           refine W_move rfl rfl ?_
           refine W_nil ?_
           exact N_step rfl (congrArg Value.bool hb375) (Below.refl _ _)
          ·
           intro w406 vq406 hB406 hH406
           have hS406 := hS359.below hB406
           refine W_guard_yes rfl ?_
           refine W_move rfl rfl ?_
           refine W_nil ?_
           exact N_step rfl rfl (Below.refl _ _)
          ·
           intro w407 vq407 hB407 hH407
           have hS407 := hS359.below hB407
           refine W_guard_yes rfl ?_
           refine W_move rfl rfl ?_
           refine W_nil ?_
           exact N_step rfl rfl (Below.refl _ _)
          ·
           intro w408 vq408 hB408 hH408
           have hS408 := hS359.below hB408
           refine W_guard_yes rfl ?_
           refine W_lenv rfl Go.Proofs.Try.underlying47 rfl h0.ln ?_
           refine W_nil ?_
           exact N_step rfl rfl (Below.refl _ _)
          ·
           intro w409 vq409 hB409 hH409
           have hS409 := hS359.below hB409
           refine W_guard_yes rfl ?_
           refine W_geq rfl rfl rfl ?_
           refine W_nil ?_
           exact N_step rfl rfl (Below.refl _ _)
          ·
           intro w410 vq410 hB410 hH410
           have hS410 := hS359.below hB410
           refine W_pick_f rfl rfl rfl ?_
           refine W_nil ?_
           exact N_step rfl rfl (Below.refl _ _)
          ·
           intro w411 vq411 hB411 hH411
           have hS411 := hS359.below hB411
           refine W_move rfl rfl ?_
           refine W_nil ?_
           exact N_step rfl (congrArg Value.bool hb402) (Below.refl _ _)
          ·
           intro w412 vq412 hB412 hH412
           have hS412 := hS359.below hB412
           refine W_guard_no rfl rfl rfl rfl rfl ?_
           refine W_nil ?_
           exact N_step rfl rfl (Below.refl _ _)
          ·
           intro w413 vq413 hB413 hH413
           have hS413 := hS359.below hB413
           refine W_guard_no rfl rfl rfl rfl rfl ?_
           refine W_nil ?_
           exact N_step rfl rfl (Below.refl _ _)
          ·
           intro w414 vq414 hB414 hH414
           have hS414 := hS359.below hB414
           refine W_guard_no rfl rfl rfl rfl rfl ?_
           refine W_nil ?_
           exact N_step rfl rfl (Below.refl _ _)
          ·
           intro w415 vq415 hB415 hH415
           have hS415 := hS359.below hB415
           refine W_guard_un rfl rfl rfl rfl ?_
           refine W_nil ?_
           exact N_step rfl rfl (Below.refl _ _)
          ·
           intro w416 vq416 hB416 hH416
           have hS416 := hS359.below hB416
           refine W_guard_un rfl rfl rfl rfl ?_
           refine W_nil ?_
           exact N_step rfl rfl (Below.refl _ _)
          ·
           intro w417 vq417 hB417 hH417
           have hS417 := hS359.below hB417
           refine W_guard_un rfl rfl rfl rfl ?_
           refine W_nil ?_
           exact N_step rfl rfl (Below.refl _ _)
          ·
           intro w418 vq418 hB418 hH418
           have hS418 := hS359.below hB418
           refine W_guard_un rfl rfl rfl rfl ?_
           refine W_nil ?_
           exact N_step rfl rfl (Below.refl _ _)
          ·
           intro w419 vq419 hB419 hH419
           have hS419 := hS359.below hB419
           refine W_guard_un rfl rfl rfl rfl ?_
           refine W_nil ?_
           exact N_step rfl rfl (Below.refl _ _)
          ·
           intro w420 vq420 hB420 hH420
           have hS420 := hS359.below hB420
           refine W_guard_un rfl rfl rfl rfl ?_
           refine W_nil ?_
           exact N_step rfl rfl (Below.refl _ _)
          ·
           intro w421 vq421 hB421 hH421
           have hS421 := hS359.below hB421
           refine W_guard_un rfl rfl rfl rfl ?_
           refine W_nil ?_
           exact N_step rfl rfl (Below.refl _ _)
          ·
           intro w422 vq422 hB422 hH422
           have hS422 := hS359.below hB422
           refine W_guard_un rfl rfl rfl rfl ?_
           refine W_nil ?_
           exact N_step rfl rfl (Below.refl _ _)
          ·
           intro w423 vq423 hB423 hH423
           have hS423 := hS359.below hB423
           refine W_guard_un rfl rfl rfl rfl ?_
           refine W_nil ?_
           exact N_step rfl rfl (Below.refl _ _)
          ·
           intro w424 vq424 hB424 hH424
           have hS424 := hS359.below hB424
           refine W_guard_un rfl rfl rfl rfl ?_
           refine W_nil ?_
           exact N_step rfl rfl (Below.refl _ _)
          ·
           intro w425 vq425 hB425 hH425
           have hS425 := hS359.below hB425
           refine W_guard_un rfl rfl rfl rfl ?_
           refine W_nil ?_
           exact N_step rfl rfl (Below.refl _ _)
          ·
           intro w426 vq426 hB426 hH426
           have hS426 := hS359.below hB426
           refine W_guard_un rfl rfl rfl rfl ?_
           refine W_nil ?_
           exact N_step rfl rfl (Below.refl _ _)
          ·
           intro w427 vq427 hB427 hH427
           have hS427 := hS359.below hB427
           refine W_guard_no rfl rfl rfl rfl rfl ?_
           refine W_nil ?_
           exact N_step rfl rfl (Below.refl _ _)
         intro w428 vq428 hB428 hH428
         have hS428 := hS359.below hB428
         refine W_pick_t rfl rfl rfl ?_
         refine W_nil ?_
         exact N_join _ ⟨rfl, F359, (Frz.le.refl _), hS428⟩ ⟨rfl, rfl, rfl, rfl, rfl, rfl, (look_bool rfl (by first | rfl | (rw [hb402, hb375]; first | done | rfl) | simp [hb375, hb402])), trivial⟩
        ·
         rcases Bool.eq_false_or_eq_true (decide (0 < i360)) with hb429 | hb429
         ·
          have hy430 := hx369
          rw [only_t (by first | rfl | (rw [hb402, hb375, hb429]; first | done | rfl) | simp [hb375, hb402, hb429])] at hy430
          obtain ⟨hp431, hy431⟩ := ix_some hy430
          obtain ⟨cs431, hr431, he431⟩ := hS359.rowAt (k := 1) rfl hy431
          obtain rfl := hr431
          replace he431 : El _ _ 5 _ _ := he431
          have hy432 := hx371
          rw [only_t (by first | rfl | (rw [hb402, hb375, hb429]; first | done | rfl) | simp [hb375, hb402, hb429])] at hy432
          obtain ⟨hp433, hy433⟩ := ix_some hy432
          obtain ⟨cs433, hr433, he433⟩ := hS359.rowAt (k := 1) rfl hy433
          obtain rfl := hr433
          replace he433 : El _ _ 5 _ _ := he433
          apply C_draw 25 [[], [0], [1], [2], [2], [4, 2], [3, 5, 2], [2, 6], [7], [8], [9, 8], [10, 8], [11], [11], [12, 13, 11], [14, 11], [15, 11], [11], [11], [18, 11], [17, 19, 11], [20, 11], [21, 11], [16, 22, 11], [11, 23, 8]] [.val (.int .i64 x366.want), .val (.bool (decide (x366.want < 0))), .val (.bool false), .val (.int .i64 x366.want), .val (v0), .val (.int .i64 (x0.length : Int)), .val (.bool (decide ((x0.length : Int) ≤ x366.want))), .val (.bool (decide ((x0.length : Int) ≤ x366.want))), .val (.bool false), .val (.int .i64 i360), .val (.bool (decide (0 < i360))), .val (.bool true), .val (ur4_0), .val (.int .i64 i360), .val (elp ur4_0 (i360.toNat * 5)), .val (elp ur4_0 ((i360.toNat * 5) + 1)), .val (.agg (Loc.cells x369.loc).toArray), .val (ur4_0), .val (.int .i64 i360), .val (.int .i64 (wr (i360 - 1))), .val (elp ur4_0 ((wr (i360 - 1)).toNat * 5)), .val (elp ur4_0 (((wr (i360 - 1)).toNat * 5) + 1)), .val (.agg (Loc.cells x371.loc).toArray), .val (.bool r373), .val (.bool r373)] Ty.mixed rfl rfl (by kernel_rfl) (by kernel_rfl) rfl
          ·
           refine ⟨?_, ?_, ?_, ?_, ?_, ?_, ?_, ?_, ?_, ?_, ?_, ?_, ?_, ?_, ?_, ?_, ?_, ?_, ?_, ?_, ?_, ?_, ?_, ?_, ?_, trivial⟩
           ·
            intro w434 vq434 hB434 hH434
            have hS434 := hS359.below hB434
            refine W_move rfl rfl ?_
            refine W_nil ?_
            exact N_step rfl rfl (Below.refl _ _)
           ·
            intro w435 vq435 hB435 hH435
            have hS435 := hS359.below hB435
            refine W_lss rfl rfl rfl ?_
            refine W_nil ?_
            exact N_step rfl rfl (Below.refl _ _)
           ·
            intro w436 vq436 hB436 hH436
            have hS436 := hS359.below hB436
            refine W_move rfl rfl ?_
            refine W_nil ?_
            exact N_step rfl (congrArg Value.bool hb375) (Below.refl _ _)
           ·
            intro w437 vq437 hB437 hH437
            have hS437 := hS359.below hB437
            refine W_guard_yes rfl ?_
            refine W_move rfl rfl ?_
            refine W_nil ?_
            exact N_step rfl rfl (Below.refl _ _)
           ·
            intro w438 vq438 hB438 hH438
            have hS438 := hS359.below hB438
            refine W_guard_yes rfl ?_
            refine W_move rfl rfl ?_
            refine W_nil ?_
            exact N_step rfl rfl (Below.refl _ _)
           ·
            intro w439 vq439 hB439 hH439
            have hS439 := hS359.below hB439
            refine W_guard_yes rfl ?_
            refine W_lenv rfl Go.Proofs.Try.underlying47 rfl h0.ln ?_
            refine W_nil ?_
            exact N_step rfl rfl (Below.refl _ _)
           ·
            intro w440 vq440 hB440 hH440
            have hS440 := hS359.below hB440
            refine W_guard_yes rfl ?_
            refine W_geq rfl rfl rfl ?_
            refine W_nil ?_
            exact N_step rfl rfl (Below.refl _ _)
           ·
            intro w441 vq441 hB441 hH441
            have hS441 := hS359.below hB441
            refine W_pick_f rfl rfl rfl ?_
            refine W_nil ?_
            exact N_step rfl rfl (Below.refl _ _)
           ·
            intro w442 vq442 hB442 hH442
            have hS442 := hS359.below hB442
            refine W_move rfl rfl ?_
            refine W_nil ?_
            exact N_step rfl (congrArg Value.bool hb402) (Below.refl _ _)
           ·
            intro w443 vq443 hB443 hH443
            have hS443 := hS359.below hB443
            refine W_guard_yes rfl ?_
            refine W_move rfl rfl ?_
            refine W_nil ?_
            exact N_step rfl rfl (Below.refl _ _)
           ·
            intro w444 vq444 hB444 hH444
            have hS444 := hS359.below hB444
            refine W_guard_yes rfl ?_
            refine W_gtr rfl rfl rfl ?_
            refine W_nil ?_
            exact N_step rfl rfl (Below.refl _ _)
           ·
            intro w445 vq445 hB445 hH445
            have hS445 := hS359.below hB445
            refine W_guard_yes rfl ?_
            refine W_move rfl rfl ?_
            refine W_nil ?_
            exact N_step rfl (congrArg Value.bool hb429) (Below.refl _ _)
           ·
            intro w446 vq446 hB446 hH446
            have hS446 := hS359.below hB446
            refine W_guard_yes rfl ?_
            refine W_move rfl rfl ?_
            refine W_nil ?_
            exact N_step rfl rfl (Below.refl _ _)
           ·
            intro w447 vq447 hB447 hH447
            have hS447 := hS359.below hB447
            refine W_guard_yes rfl ?_
            refine W_move rfl rfl ?_
            refine W_nil ?_
            exact N_step rfl rfl (Below.refl _ _)
           ·
            intro w448 vq448 hB448 hH448
            have hS448 := hS359.below hB448
            refine W_guard_yes rfl ?_
            refine W_ix rfl Go.Proofs.Try.underlying23 Ty.cells39 Ty.info39 rfl rfl (he431.below hB448) hp431 rfl ?_
            refine W_nil ?_
            exact N_step rfl rfl (Below.refl _ _)
           ·
            intro w449 vq449 hB449 hH449
            have hS449 := hS359.below hB449
            refine W_guard_yes rfl ?_
            refine W_fld 1 rfl Ty.field39_1 rfl (he431.below hB449) ?_
            refine W_nil ?_
            exact N_step rfl rfl (Below.refl _ _)
           ·
            intro w450 vq450 hB450 hH450
            have hS450 := hS359.below hB450
            refine W_guard_yes rfl ?_
            refine W_ldg 1 ((Loc.cells x369.loc)) rfl Ty.agg37 Ty.size37 rfl (he431.below hB450) (by omega) (fun q u h => sub_at (post := []) rfl h) ?_
            refine W_nil ?_
            exact N_step rfl rfl (Below.refl _ _)
           ·
            intro w451 vq451 hB451 hH451
            have hS451 := hS359.below hB451
            refine W_guard_yes rfl ?_
            refine W_move rfl rfl ?_
            refine W_nil ?_
            exact N_step rfl rfl (Below.refl _ _)
           ·
            intro w452 vq452 hB452 hH452
            have hS452 := hS359.below hB452
            refine W_guard_yes rfl ?_
            refine W_move rfl rfl ?_
            refine W_nil ?_
            exact N_step rfl rfl (Below.refl _ _)
           ·
            intro w453 vq453 hB453 hH453
            have hS453 := hS359.below hB453
            refine W_guard_yes rfl ?_
            refine W_subi rfl rfl rfl rfl ?_
            refine W_nil ?_
            exact N_step rfl rfl (Below.refl _ _)
           ·
            intro w454 vq454 hB454 hH454
            have hS454 := hS359.below hB454
            refine W_guard_yes rfl ?_
            refine W_ix rfl Go.Proofs.Try.underlying23 Ty.cells39 Ty.info39 rfl rfl (he433.below hB454) hp433 rfl ?_
            refine W_nil ?_
            exact N_step rfl rfl (Below.refl _ _)
           ·
            intro w455 vq455 hB455 hH455
            have hS455 := hS359.below hB455
            refine W_guard_yes rfl ?_
            refine W_fld 1 rfl Ty.field39_1 rfl (he433.below hB455) ?_
            refine W_nil ?_
            exact N_step rfl rfl (Below.refl _ _)
           ·
            intro w456 vq456 hB456 hH456
            have hS456 := hS359.below hB456
            refine W_guard_yes rfl ?_
            refine W_ldg 1 ((Loc.cells x371.loc)) rfl Ty.agg37 Ty.size37 rfl (he433.below hB456) (by omega) (fun q u h => sub_at (post := []) rfl h) ?_
            refine W_nil ?_
            exact N_step rfl rfl (Below.refl _ _)
           ·
            intro w457 vq457 hB457 hH457
            have hS457 := hS359.below hB457
            refine W_guard_yes rfl ?_
            have hy458 := hr373
            rw [only_t (by first | rfl | (rw [hb402, hb375, hb429]; first | done | rfl) | simp [hb375, hb402, hb429])] at hy458
            refine W_call rfl Ty.named31 rfl (plan_Ahead_ok hS457.agree hy458) ?_
            rintro v459 w459 ⟨Fr373, rfl, hT459⟩
            have hS459 := hS457.lent hT459
            refine W_nil ?_
            exact N_step rfl rfl hT459.below0
           ·
            intro w460 vq460 hB460 hH460
            have hS460 := hS359.below hB460
            refine W_guard_yes rfl ?_
            refine W_pick_t rfl rfl rfl ?_
            refine W_nil ?_
            exact N_step rfl rfl (Below.refl _ _)
          intro w461 vq461 hB461 hH461
          have hS461 := hS359.below hB461
          refine W_pick_f rfl rfl rfl ?_
          refine W_nil ?_
          exact N_join _ ⟨rfl, F359, (Frz.le.refl _), hS461⟩ ⟨rfl, rfl, rfl, rfl, rfl, rfl, (look_bool rfl (by first | rfl | (rw [hb402, hb375, hb429]; first | done | rfl) | simp [hb375, hb402, hb429])), trivial⟩
         ·
          apply C_draw 25 [[], [0], [1], [2], [2], [4, 2], [3, 5, 2], [2, 6], [7], [8], [9, 8], [10, 8], [11], [11], [12, 13, 11], [14, 11], [15, 11], [11], [11], [18, 11], [17, 19, 11], [20, 11], [21, 11], [16, 22, 11], [11, 23, 8]] [.val (.int .i64 x366.want), .val (.bool (decide (x366.want < 0))), .val (.bool false), .val (.int .i64 x366.want), .val (v0), .val (.int .i64 (x0.length : Int)), .val (.bool (decide ((x0.length : Int) ≤ x366.want))), .val (.bool (decide ((x0.length : Int) ≤ x366.want))), .val (.bool false), .val (.int .i64 i360), .val (.bool (decide (0 < i360))), .val (.bool false), .val undef, .val undef, .val undef, .val undef, .val undef, .val undef, .val undef, .val undef, .val undef, .val undef, .val undef, .val undef, .val (.bool false)] Ty.mixed rfl rfl (by kernel_rfl) (by kernel_rfl) rfl
          ·
           refine ⟨?_, ?_, ?_, ?_, ?_, ?_, ?_, ?_, ?_, ?_, ?_, ?_, ?_, ?_, ?_, ?_, ?_, ?_, ?_, ?_, ?_, ?_, ?_, ?_, ?_, trivial⟩
           ·
            intro w462 vq462 hB462 hH462
            have hS462 := hS359.below hB462
            refine W_move rfl rfl ?_
            refine W_nil ?_
            exact N_step rfl rfl (Below.refl _ _)
           ·
            intro w463 vq463 hB463 hH463
            have hS463 := hS359.below hB463
            refine W_lss rfl rfl rfl ?_
            refine W_nil ?_
            exact N_step rfl rfl (Below.refl _ _)
           ·
            intro w464 vq464 hB464 hH464
            have hS464 := hS359.below hB464
            refine W_move rfl rfl ?_
            refine W_nil ?_
            exact N_step rfl (congrArg Value.bool hb375) (Below.refl _ _)
           ·
            intro w465 vq465 hB465 hH465
            have hS465 := hS359.below hB465
            refine W_guard_yes rfl ?_
            refine W_move rfl rfl ?_
            refine W_nil ?_
            exact N_step rfl rfl (Below.refl _ _)
           ·
            intro w466 vq466 hB466 hH466
            have hS466 := hS359.below hB466
            refine W_guard_yes rfl ?_
            refine W_move rfl rfl ?_
            refine W_nil ?_
            exact N_step rfl rfl (Below.refl _ _)
           ·
            intro w467 vq467 hB467 hH467
            have hS467 := hS359.below hB467
            refine W_guard_yes rfl ?_
            refine W_lenv rfl Go.Proofs.Try.underlying47 rfl h0.ln ?_
            refine W_nil ?_
            exact N_step rfl rfl (Below.refl _ _)
           ·
            intro w468 vq468 hB468 hH468
            have hS468 := hS359.below hB468
            refine W_guard_yes rfl ?_
            refine W_geq rfl rfl rfl ?_
            refine W_nil ?_
            exact N_step rfl rfl (Below.refl _ _)
           ·
            intro w469 vq469 hB469 hH469
            have hS469 := hS359.below hB469
            refine W_pick_f rfl rfl rfl ?_
            refine W_nil ?_
            exact N_step rfl rfl (Below.refl _ _)
           ·
            intro w470 vq470 hB470 hH470
            have hS470 := hS359.below hB470
            refine W_move rfl rfl ?_
            refine W_nil ?_
            exact N_step rfl (congrArg Value.bool hb402) (Below.refl _ _)
           ·
            intro w471 vq471 hB471 hH471
            have hS471 := hS359.below hB471
            refine W_guard_yes rfl ?_
            refine W_move rfl rfl ?_
            refine W_nil ?_
            exact N_step rfl rfl (Below.refl _ _)
           ·
            intro w472 vq472 hB472 hH472
            have hS472 := hS359.below hB472
            refine W_guard_yes rfl ?_
            refine W_gtr rfl rfl rfl ?_
            refine W_nil ?_
            exact N_step rfl rfl (Below.refl _ _)
           ·
            intro w473 vq473 hB473 hH473
            have hS473 := hS359.below hB473
            refine W_guard_yes rfl ?_
            refine W_move rfl rfl ?_
            refine W_nil ?_
            exact N_step rfl (congrArg Value.bool hb429) (Below.refl _ _)
           ·
            intro w474 vq474 hB474 hH474
            have hS474 := hS359.below hB474
            refine W_guard_no rfl rfl rfl rfl rfl ?_
            refine W_nil ?_
            exact N_step rfl rfl (Below.refl _ _)
           ·
            intro w475 vq475 hB475 hH475
            have hS475 := hS359.below hB475
            refine W_guard_no rfl rfl rfl rfl rfl ?_
            refine W_nil ?_
            exact N_step rfl rfl (Below.refl _ _)
           ·
            intro w476 vq476 hB476 hH476
            have hS476 := hS359.below hB476
            refine W_guard_no rfl rfl rfl rfl rfl ?_
            refine W_nil ?_
            exact N_step rfl rfl (Below.refl _ _)
           ·
            intro w477 vq477 hB477 hH477
            have hS477 := hS359.below hB477
            refine W_guard_no rfl rfl rfl rfl rfl ?_
            refine W_nil ?_
            exact N_step rfl rfl (Below.refl _ _)
           ·
            intro w478 vq478 hB478 hH478
            have hS478 := hS359.below hB478
            refine W_guard_no rfl rfl rfl rfl rfl ?_
            refine W_nil ?_
            exact N_step rfl rfl (Below.refl _ _)
           ·
            intro w479 vq479 hB479 hH479
            have hS479 := hS359.below hB479
            refine W_guard_no rfl rfl rfl rfl rfl ?_
            refine W_nil ?_
            exact N_step rfl rfl (Below.refl _ _)
           ·
            intro w480 vq480 hB480 hH480
            have hS480 := hS359.below hB480
            refine W_guard_no rfl rfl rfl rfl rfl ?_
            refine W_nil ?_
            exact N_step rfl rfl (Below.refl _ _)
           ·
            intro w481 vq481 hB481 hH481
            have hS481 := hS359.below hB481
            refine W_guard_no rfl rfl rfl rfl rfl ?_
            refine W_nil ?_
            exact N_step rfl rfl (Below.refl _ _)
           ·
            intro w482 vq482 hB482 hH482
            have hS482 := hS359.below hB482
            refine W_guard_no rfl rfl rfl rfl rfl ?_
            refine W_nil ?_
            exact N_step rfl rfl (Below.refl _ _)
           ·
            intro w483 vq483 hB483 hH483
            have hS483 := hS359.below hB483
            refine W_guard_no rfl rfl rfl rfl rfl ?_
            refine W_nil ?_
            exact N_step rfl rfl (Below.refl _ _)
           ·
            intro w484 vq484 hB484 hH484
            have hS484 := hS359.below hB484
            refine W_guard_no rfl rfl rfl rfl rfl ?_
            refine W_nil ?_
            exact N_step rfl rfl (Below.refl _ _)
           ·
            intro w485 vq485 hB485 hH485
            have hS485 := hS359.below hB485
            refine W_guard_no rfl rfl rfl rfl rfl ?_
            refine W_nil ?_
            exact N_step rfl rfl (Below.refl _ _)
           ·
            intro w486 vq486 hB486 hH486
            have hS486 := hS359.below hB486
            refine W_guard_yes rfl ?_
            refine W_pick_f rfl rfl rfl ?_
            refine W_nil ?_
            exact N_step rfl rfl (Below.refl _ _)
          intro w487 vq487 hB487 hH487
          have hS487 := hS359.below hB487
          refine W_pick_f rfl rfl rfl ?_
          refine W_nil ?_
          exact N_join _ ⟨rfl, F359, (Frz.le.refl _), hS487⟩ ⟨rfl, rfl, rfl, rfl, rfl, rfl, (look_bool rfl (by first | rfl | (rw [hb402, hb375, hb429]; first | done | rfl) | simp [hb375, hb402, hb429])), trivial⟩
      rintro E w374 ⟨rfl, F374, le374, hS374⟩
      refine N_code ?_
      refine C_cond rfl (fun hc488 => ?_) (fun hc488 => ?_)
      ·
       rw [if_t hc488] at H
       refine C_seq ?_
       refine C_region ?_
       refine W_assign rfl rfl ?_
       refine W_nil ?_
       refine N_code ?_
       obtain rfl := Option.some.inj H
       refine C_ret rfl rfl ?_
       exact ⟨F374, rfl, hS374.pick [] (by decide)⟩
      ·
       rw [if_f hc488] at H
       refine C_skip ?_
       refine N_code ?_
       refine C_seq ?_
       obtain ⟨x489, hx489, H⟩ := bd_some H
       refine C_region ?_
       refine W_move rfl rfl ?_
       refine W_move rfl rfl ?_
       obtain ⟨hp491, hy491⟩ := ix_some hx489
       obtain ⟨cs491, hr491, he491⟩ := hS374.rowAt (k := 0) rfl hy491
       obtain rfl := hr491
       replace he491 : El _ _ 1 _ _ := he491
       refine W_ix rfl Go.Proofs.Try.underlying22 Ty.cells3 Ty.info3 rfl rfl he491 hp491 rfl ?_
       refine W_ld1 0 rfl Ty.cell3 rfl he491 (by omega) rfl ?_
       refine W_add rfl rfl rfl rfl ?_
       refine W_ix rfl Go.Proofs.Try.underlying22 Ty.cells3 Ty.info3 rfl rfl he491 hp491 rfl ?_
       refine W_put (c := [.int .i64 (wr (x489 + 1))]) 0 (x366.want.toNat) 0 x489 (wr (x489 + 1)) rfl rfl hS374 rfl (ix_some hx489).2 (by first | rfl | (show _ = _ * 1 + _; omega)) rfl Ty.size3 (by intro y hy; simp at hy; subst hy; rfl) (by first | decide | exact Nat.le_of_ble_eq_true rfl) (by rintro cs rfl; rfl) ?_
       intro w492 hS492
       refine W_nil ?_
       refine N_code ?_
       refine C_seq ?_
       refine C_region ?_
       refine W_assign rfl rfl ?_
       refine W_nil ?_
       refine N_code ?_
       refine C_seq_join (fun E wq => ∃ b495 : Bool, cellarerlaw21_PlanRises.k13 i360 l361 rec362 x366 x489 b495 = some r ∧ ∃ (F494 : Frz), E = [(0, v0), (3, ur4_0), (4, ur4_1), (5, v7), (6, .int .i64 i360), (8, .bool b495)] ∧ F374.le F494 ∧ St [] w F F494 [.row tI 3 v7 (l361.set x366.want.toNat (wr (x489 + 1))), .row Read.t 39 ur4_0 r4.1, .row tI 3 ur4_1 r4.2] wq) ?_ ?_
       ·
        refine C_seq ?_
        refine C_region ?_
        refine W_assign rfl rfl ?_
        refine W_nil ?_
        refine N_code ?_
        refine C_block ?_
        refine C_loopM (fun (s : Bool × Int) E wq => ∃ (F497 : Frz), E = [(0, v0), (3, ur4_0), (4, ur4_1), (5, v7), (6, .int .i64 i360), (7, .int .i64 x366.want), (8, .bool s.1), (9, .int .i64 s.2)] ∧ F374.le F497 ∧ St [] w F F497 [.row tI 3 v7 (l361.set x366.want.toNat (wr (x489 + 1))), .row Read.t 39 ur4_0 r4.1, .row tI 3 ur4_1 r4.2] wq) H ?_ ?_
        ·
         exact ⟨_, ⟨F374, rfl, (Frz.le.refl _), hS492⟩, ⟨rfl, rfl, rfl, rfl, rfl, rfl, rfl, rfl, trivial⟩⟩
        ·
         rintro rec500 ⟨b498, i499⟩ E w497 hI H
         try dsimp only at hI
         obtain ⟨F497, rfl, le497, hS497⟩ := hI
         dsimp only [cellarerlaw21_PlanRises.l14] at H
         refine C_seq ?_
         refine C_seq ?_
         obtain ⟨x501, hx501, H⟩ := bd_some H
         refine C_region ?_
         refine W_move rfl rfl ?_
         refine W_move rfl rfl ?_
         refine W_move rfl rfl ?_
         obtain ⟨hp503, hy503⟩ := ix_some hx501
         obtain ⟨cs503, hr503, he503⟩ := (h0.mono (((ler4.trans le359).trans le374).trans le497)).at_ hy503
         obtain ⟨ue502_0, rfl, hle502_0, hue502_0⟩ := hr503
         replace he503 : Elf _ _ 33 _ _ := he503
         refine W_ix rfl Go.Proofs.Try.underlying47 Ty.cells52 Ty.info52 rfl rfl (he503.el hS497.agree) hp503 rfl ?_
         refine W_fld 32 rfl Ty.field52_1 rfl (he503.el hS497.agree) ?_
         refine W_ld1 32 rfl Ty.cell49 rfl (he503.el hS497.agree) (by omega) rfl ?_
         refine W_lenv rfl Go.Proofs.Try.underlying49 rfl hue502_0.ln ?_
         refine W_lss rfl rfl rfl ?_
         refine W_nil ?_
         refine N_code ?_
         refine C_cond rfl (fun hc504 => ?_) (fun hc504 => ?_)
         ·
          rw [if_t hc504] at H
          refine C_skip ?_
          refine N_code ?_
          refine C_seq ?_
          refine C_block ?_
          refine C_seq ?_
          obtain ⟨x505, hx505, H⟩ := bd_some H
          obtain ⟨x507, hx507, H⟩ := bd_some H
          obtain ⟨x509, hx509, H⟩ := bd_some H
          obtain ⟨r511, hr511, H⟩ := bd_some H
          refine C_join (fun E wq => E = [(0, v0), (3, ur4_0), (4, ur4_1), (5, v7), (6, .int .i64 i360), (7, .int .i64 x366.want), (8, .bool (b498 || r511)), (9, .int .i64 i499)] ∧ ∃ F512 : Frz, F497.le F512 ∧ St [] w F F512 [.row tI 3 v7 (l361.set x366.want.toNat (wr (x489 + 1))), .row Read.t 39 ur4_0 r4.1, .row tI 3 ur4_1 r4.2] wq) ?_ ?_
          ·
           rcases Bool.eq_false_or_eq_true b498 with hb513 | hb513
           ·
            apply C_draw 16 [[], [0], [1], [1], [2, 3, 1], [4, 1], [5, 1], [1], [6, 7, 1], [8, 1], [1], [1], [10, 11, 1], [12, 1], [13, 1], [9, 14, 1]] [.val (.bool b498), .val (.bool true), .val undef, .val undef, .val undef, .val undef, .val undef, .val undef, .val undef, .val undef, .val undef, .val undef, .val undef, .val undef, .val undef, .val undef] Ty.mixed rfl rfl (by kernel_rfl) (by kernel_rfl) rfl
            ·
             refine ⟨?_, ?_, ?_, ?_, ?_, ?_, ?_, ?_, ?_, ?_, ?_, ?_, ?_, ?_, ?_, ?_, trivial⟩
             ·
              intro w514 vq514 hB514 hH514
              have hS514 := hS497.below hB514
              refine W_move rfl rfl ?_
              refine W_nil ?_
              exact N_step rfl rfl (Below.refl _ _)
             ·
              intro w515 vq515 hB515 hH515
              have hS515 := hS497.below hB515
              refine W_move rfl rfl ?_
              refine W_nil ?_
              exact N_step rfl (congrArg Value.bool hb513) (Below.refl _ _)
             ·
              intro w516 vq516 hB516 hH516
              have hS516 := hS497.below hB516
              refine W_guard_no rfl rfl rfl rfl rfl ?_
              refine W_nil ?_
              exact N_step rfl rfl (Below.refl _ _)
             ·
              intro w517 vq517 hB517 hH517
              have hS517 := hS497.below hB517
              refine W_guard_no rfl rfl rfl rfl rfl ?_
              refine W_nil ?_
              exact N_step rfl rfl (Below.refl _ _)
             ·
              intro w518 vq518 hB518 hH518
              have hS518 := hS497.below hB518
              refine W_guard_no rfl rfl rfl rfl rfl ?_
              refine W_nil ?_
              exact N_step rfl rfl (Below.refl _ _)
             ·
              intro w519 vq519 hB519 hH519
              have hS519 := hS497.below hB519
              refine W_guard_no rfl rfl rfl rfl rfl ?_
              refine W_nil ?_
              exact N_step rfl rfl (Below.refl _ _)
             ·
              intro w520 vq520 hB520 hH520
              have hS520 := hS497.below hB520
              refine W_guard_no rfl rfl rfl rfl rfl ?_
              refine W_nil ?_
              exact N_step rfl rfl (Below.refl _ _)
             ·
              intro w521 vq521 hB521 hH521
              have hS521 := hS497.below hB521
              refine W_guard_no rfl rfl rfl rfl rfl ?_
              refine W_nil ?_
              exact N_step rfl rfl (Below.refl _ _)
             ·
              intro w522 vq522 hB522 hH522
              have hS522 := hS497.below hB522
              refine W_guard_no rfl rfl rfl rfl rfl ?_
              refine W_nil ?_
              exact N_step rfl rfl (Below.refl _ _)
             ·
              intro w523 vq523 hB523 hH523
              have hS523 := hS497.below hB523
              refine W_guard_no rfl rfl rfl rfl rfl ?_
              refine W_nil ?_
              exact N_step rfl rfl (Below.refl _ _)
             ·
              intro w524 vq524 hB524 hH524
              have hS524 := hS497.below hB524
              refine W_guard_no rfl rfl rfl rfl rfl ?_
              refine W_nil ?_
              exact N_step rfl rfl (Below.refl _ _)
             ·
              intro w525 vq525 hB525 hH525
              have hS525 := hS497.below hB525
              refine W_guard_no rfl rfl rfl rfl rfl ?_
              refine W_nil ?_
              exact N_step rfl rfl (Below.refl _ _)
             ·
              intro w526 vq526 hB526 hH526
              have hS526 := hS497.below hB526
              refine W_guard_no rfl rfl rfl rfl rfl ?_
              refine W_nil ?_
              exact N_step rfl rfl (Below.refl _ _)
             ·
              intro w527 vq527 hB527 hH527
              have hS527 := hS497.below hB527
              refine W_guard_no rfl rfl rfl rfl rfl ?_
              refine W_nil ?_
              exact N_step rfl rfl (Below.refl _ _)
             ·
              intro w528 vq528 hB528 hH528
              have hS528 := hS497.below hB528
              refine W_guard_no rfl rfl rfl rfl rfl ?_
              refine W_nil ?_
              exact N_step rfl rfl (Below.refl _ _)
             ·
              intro w529 vq529 hB529 hH529
              have hS529 := hS497.below hB529
              refine W_guard_no rfl rfl rfl rfl rfl ?_
              refine W_nil ?_
              exact N_step rfl rfl (Below.refl _ _)
            intro w530 vq530 hB530 hH530
            have hS530 := hS497.below hB530
            refine W_pick_t rfl rfl rfl ?_
            refine W_assign rfl rfl ?_
            refine W_nil ?_
            exact N_join _ ⟨rfl, F497, (Frz.le.refl _), hS530⟩ ⟨rfl, rfl, rfl, rfl, rfl, rfl, (look_bool rfl (by first | rfl | (rw [hb513]; first | done | rfl) | simp [hb513])), rfl, trivial⟩
           ·
            have hy531 := hx505
            rw [only_t (by first | rfl | (rw [hb513]; first | done | rfl) | simp [hb513])] at hy531
            obtain ⟨hp532, hy532⟩ := ix_some hy531
            obtain ⟨cs532, hr532, he532⟩ := (h0.mono (((ler4.trans le359).trans le374).trans le497)).at_ hy532
            obtain ⟨ue506_0, rfl, hle506_0, hue506_0⟩ := hr532
            replace he532 : Elf _ _ 33 _ _ := he532
            have hy533 := hx507
            rw [only_t (by first | rfl | (rw [hb513]; first | done | rfl) | simp [hb513])] at hy533
            obtain ⟨hp534, hy534⟩ := ix_some hy533
            obtain ⟨cs534, hr534, he534⟩ := hue506_0.at_ hy534
            obtain rfl := hr534
            replace he534 : Elf _ _ 4 _ _ := he534
            have hy535 := hx509
            rw [only_t (by first | rfl | (rw [hb513]; first | done | rfl) | simp [hb513])] at hy535
            obtain ⟨hp536, hy536⟩ := ix_some hy535
            obtain ⟨cs536, hr536, he536⟩ := hS497.rowAt (k := 1) rfl hy536
            obtain rfl := hr536
            replace he536 : El _ _ 5 _ _ := he536
            apply C_draw 16 [[], [0], [1], [1], [2, 3, 1], [4, 1], [5, 1], [1], [6, 7, 1], [8, 1], [1], [1], [10, 11, 1], [12, 1], [13, 1], [9, 14, 1]] [.val (.bool b498), .val (.bool false), .val (v0), .val (.int .i64 x366.want), .val (elp v0 (x366.want.toNat * 33)), .val (elp v0 ((x366.want.toNat * 33) + 32)), .val (ue506_0), .val (.int .i64 i499), .val (elp ue506_0 (i499.toNat * 4)), .val (.agg (Loc.cells x507).toArray), .val (ur4_0), .val (.int .i64 i360), .val (elp ur4_0 (i360.toNat * 5)), .val (elp ur4_0 ((i360.toNat * 5) + 1)), .val (.agg (Loc.cells x509.loc).toArray), .val (.bool r511)] Ty.mixed rfl rfl (by kernel_rfl) (by kernel_rfl) rfl
            ·
             refine ⟨?_, ?_, ?_, ?_, ?_, ?_, ?_, ?_, ?_, ?_, ?_, ?_, ?_, ?_, ?_, ?_, trivial⟩
             ·
              intro w537 vq537 hB537 hH537
              have hS537 := hS497.below hB537
              refine W_move rfl rfl ?_
              refine W_nil ?_
              exact N_step rfl rfl (Below.refl _ _)
             ·
              intro w538 vq538 hB538 hH538
              have hS538 := hS497.below hB538
              refine W_move rfl rfl ?_
              refine W_nil ?_
              exact N_step rfl (congrArg Value.bool hb513) (Below.refl _ _)
             ·
              intro w539 vq539 hB539 hH539
              have hS539 := hS497.below hB539
              refine W_guard_yes rfl ?_
              refine W_move rfl rfl ?_
              refine W_nil ?_
              exact N_step rfl rfl (Below.refl _ _)
             ·
              intro w540 vq540 hB540 hH540
              have hS540 := hS497.below hB540
              refine W_guard_yes rfl ?_
              refine W_move rfl rfl ?_
              refine W_nil ?_
              exact N_step rfl rfl (Below.refl _ _)
             ·
              intro w541 vq541 hB541 hH541
              have hS541 := hS497.below hB541
              refine W_guard_yes rfl ?_
              refine W_ix rfl Go.Proofs.Try.underlying47 Ty.cells52 Ty.info52 rfl rfl (he532.el hS541.agree) hp532 rfl ?_
              refine W_nil ?_
              exact N_step rfl rfl (Below.refl _ _)
             ·
              intro w542 vq542 hB542 hH542
              have hS542 := hS497.below hB542
              refine W_guard_yes rfl ?_
              refine W_fld 32 rfl Ty.field52_1 rfl (he532.el hS542.agree) ?_
              refine W_nil ?_
              exact N_step rfl rfl (Below.refl _ _)
             ·
              intro w543 vq543 hB543 hH543
              have hS543 := hS497.below hB543
              refine W_guard_yes rfl ?_
              refine W_ld1 32 rfl Ty.cell49 rfl (he532.el hS543.agree) (by omega) rfl ?_
              refine W_nil ?_
              exact N_step rfl rfl (Below.refl _ _)
             ·
              intro w544 vq544 hB544 hH544
              have hS544 := hS497.below hB544
              refine W_guard_yes rfl ?_
              refine W_move rfl rfl ?_
              refine W_nil ?_
              exact N_step rfl rfl (Below.refl _ _)
             ·
              intro w545 vq545 hB545 hH545
              have hS545 := hS497.below hB545
              refine W_guard_yes rfl ?_
              refine W_ix rfl Go.Proofs.Try.underlying49 Ty.cells37 Ty.info37 rfl rfl (he534.el hS545.agree) hp534 rfl ?_
              refine W_nil ?_
              exact N_step rfl rfl (Below.refl _ _)
             ·
              intro w546 vq546 hB546 hH546
              have hS546 := hS497.below hB546
              refine W_guard_yes rfl ?_
              refine W_ldg 0 ((Loc.cells x507)) rfl Ty.agg37 Ty.size37 rfl (he534.el hS546.agree) (by omega) (fun q u h => sub_at (post := []) rfl h) ?_
              refine W_nil ?_
              exact N_step rfl rfl (Below.refl _ _)
             ·
              intro w547 vq547 hB547 hH547
              have hS547 := hS497.below hB547
              refine W_guard_yes rfl ?_
              refine W_move rfl rfl ?_
              refine W_nil ?_
              exact N_step rfl rfl (Below.refl _ _)
             ·
              intro w548 vq548 hB548 hH548
              have hS548 := hS497.below hB548
              refine W_guard_yes rfl ?_
              refine W_move rfl rfl ?_
              refine W_nil ?_
              exact N_step rfl rfl (Below.refl _ _)
             ·
              intro w549 vq549 hB549 hH549
              have hS549 := hS497.below hB549
              refine W_guard_yes rfl ?_
              refine W_ix rfl Go.Proofs.Try.underlying23 Ty.cells39 Ty.info39 rfl rfl (he536.below hB549) hp536 rfl ?_
              refine W_nil ?_
              exact N_step rfl rfl (Below.refl _ _)
             ·
              intro w550 vq550 hB550 hH550
              have hS550 := hS497.below hB550
              refine W_guard_yes rfl ?_
              refine W_fld 1 rfl Ty.field39_1 rfl (he536.below hB550) ?_
              refine W_nil ?_
              exact N_step rfl rfl (Below.refl _ _)
             ·
              intro w551 vq551 hB551 hH551
              have hS551 := hS497.below hB551
              refine W_guard_yes rfl ?_
              refine W_ldg 1 ((Loc.cells x509.loc)) rfl Ty.agg37 Ty.size37 rfl (he536.below hB551) (by omega) (fun q u h => sub_at (post := []) rfl h) ?_
              refine W_nil ?_
              exact N_step rfl rfl (Below.refl _ _)
             ·
              intro w552 vq552 hB552 hH552
              have hS552 := hS497.below hB552
              refine W_guard_yes rfl ?_
              have hy553 := hr511
              rw [only_t (by first | rfl | (rw [hb513]; first | done | rfl) | simp [hb513])] at hy553
              refine W_call rfl Ty.named24 rfl (cellarerkeep_Loc_ok hS552.agree hy553) ?_
              rintro v554 w554 ⟨Fr511, rfl, hT554⟩
              have hS554 := hS552.lent hT554
              refine W_nil ?_
              exact N_step rfl rfl hT554.below0
            intro w555 vq555 hB555 hH555
            have hS555 := hS497.below hB555
            refine W_pick_f rfl rfl rfl ?_
            refine W_assign rfl rfl ?_
            refine W_nil ?_
            exact N_join _ ⟨rfl, F497, (Frz.le.refl _), hS555⟩ ⟨rfl, rfl, rfl, rfl, rfl, rfl, (look_bool rfl (by first | rfl | (rw [hb513]; first | done | rfl) | simp [hb513])), rfl, trivial⟩
          rintro E w512 ⟨rfl, F512, le512, hS512⟩
          refine N_code ?_
          refine C_seq ?_
          obtain ⟨x556, hx556, H⟩ := bd_some H
          obtain ⟨x558, hx558, H⟩ := bd_some H
          obtain ⟨x560, hx560, H⟩ := bd_some H
          obtain ⟨r562, hr562, H⟩ := bd_some H
          obtain ⟨hp563, hy563⟩ := ix_some hx556
          obtain ⟨cs563, hr563, he563⟩ := (h0.mono ((((ler4.trans le359).trans le374).trans le497).trans le512)).at_ hy563
          obtain ⟨ue557_0, rfl, hle557_0, hue557_0⟩ := hr563
          replace he563 : Elf _ _ 33 _ _ := he563
          obtain ⟨hp564, hy564⟩ := ix_some hx558
          obtain ⟨cs564, hr564, he564⟩ := hue557_0.at_ hy564
          obtain rfl := hr564
          replace he564 : Elf _ _ 4 _ _ := he564
          obtain ⟨hp565, hy565⟩ := ix_some hx560
          obtain ⟨cs565, hr565, he565⟩ := hS512.rowAt (k := 1) rfl hy565
          obtain rfl := hr565
          replace he565 : El _ _ 5 _ _ := he565
          apply C_draw 13 [[], [], [0, 1], [2], [3], [], [4, 5], [6], [], [], [8, 9], [10], [11]] [.val (v0), .val (.int .i64 x366.want), .val (elp v0 (x366.want.toNat * 33)), .val (elp v0 ((x366.want.toNat * 33) + 32)), .val (ue557_0), .val (.int .i64 i499), .val (elp ue557_0 (i499.toNat * 4)), .val (.agg (Loc.cells x558).toArray), .val (ur4_0), .val (.int .i64 i360), .val (elp ur4_0 (i360.toNat * 5)), .val (elp ur4_0 ((i360.toNat * 5) + 1)), .val (.agg (Loc.cells x560.loc).toArray)] Ty.mixed rfl rfl (by kernel_rfl) (by kernel_rfl) rfl
          ·
           refine ⟨?_, ?_, ?_, ?_, ?_, ?_, ?_, ?_, ?_, ?_, ?_, ?_, ?_, trivial⟩
           ·
            intro w566 vq566 hB566 hH566
            have hS566 := hS512.below hB566
            refine W_move rfl rfl ?_
            refine W_nil ?_
            exact N_step rfl rfl (Below.refl _ _)
           ·
            intro w567 vq567 hB567 hH567
            have hS567 := hS512.below hB567
            refine W_move rfl rfl ?_
            refine W_nil ?_
            exact N_step rfl rfl (Below.refl _ _)
           ·
            intro w568 vq568 hB568 hH568
            have hS568 := hS512.below hB568
            refine W_ix rfl Go.Proofs.Try.underlying47 Ty.cells52 Ty.info52 rfl rfl (he563.el hS568.agree) hp563 rfl ?_
            refine W_nil ?_
            exact N_step rfl rfl (Below.refl _ _)
           ·
            intro w569 vq569 hB569 hH569
            have hS569 := hS512.below hB569
            refine W_fld 32 rfl Ty.field52_1 rfl (he563.el hS569.agree) ?_
            refine W_nil ?_
            exact N_step rfl rfl (Below.refl _ _)
           ·
            intro w570 vq570 hB570 hH570
            have hS570 := hS512.below hB570
            refine W_ld1 32 rfl Ty.cell49 rfl (he563.el hS570.agree) (by omega) rfl ?_
            refine W_nil ?_
            exact N_step rfl rfl (Below.refl _ _)
           ·
            intro w571 vq571 hB571 hH571
            have hS571 := hS512.below hB571
            refine W_move rfl rfl ?_
            refine W_nil ?_
            exact N_step rfl rfl (Below.refl _ _)
           ·
            intro w572 vq572 hB572 hH572
            have hS572 := hS512.below hB572
            refine W_ix rfl Go.Proofs.Try.underlying49 Ty.cells37 Ty.info37 rfl rfl (he564.el hS572.agree) hp564 rfl ?_
            refine W_nil ?_
            exact N_step rfl rfl (Below.refl _ _)
           ·
            intro w573 vq573 hB573 hH573
            have hS573 := hS512.below hB573
            refine W_ldg 0 ((Loc.cells x558)) rfl Ty.agg37 Ty.size37 rfl (he564.el hS573.agree) (by omega) (fun q u h => sub_at (post := []) rfl h) ?_
            refine W_nil ?_
            exact N_step rfl rfl (Below.refl _ _)
           ·
            intro w574 vq574 hB574 hH574
            have hS574 := hS512.below hB574
            refine W_move rfl rfl ?_
            refine W_nil ?_
            exact N_step rfl rfl (Below.refl _ _)
           ·
            intro w575 vq575 hB575 hH575
            have hS575 := hS512.below hB575
            refine W_move rfl rfl ?_
            refine W_nil ?_
            exact N_step rfl rfl (Below.refl _ _)
           ·
            intro w576 vq576 hB576 hH576
            have hS576 := hS512.below hB576
            refine W_ix rfl Go.Proofs.Try.underlying23 Ty.cells39 Ty.info39 rfl rfl (he565.below hB576) hp565 rfl ?_
            refine W_nil ?_
            exact N_step rfl rfl (Below.refl _ _)
           ·
            intro w577 vq577 hB577 hH577
            have hS577 := hS512.below hB577
            refine W_fld 1 rfl Ty.field39_1 rfl (he565.below hB577) ?_
            refine W_nil ?_
            exact N_step rfl rfl (Below.refl _ _)
           ·
            intro w578 vq578 hB578 hH578
            have hS578 := hS512.below hB578
            refine W_ldg 1 ((Loc.cells x560.loc)) rfl Ty.agg37 Ty.size37 rfl (he565.below hB578) (by omega) (fun q u h => sub_at (post := []) rfl h) ?_
            refine W_nil ?_
            exact N_step rfl rfl (Below.refl _ _)
          intro w579 vq579 hB579 hH579
          have hS579 := hS512.below hB579
          refine W_call rfl Ty.named31 rfl (plan_Ahead_ok hS579.agree hr562) ?_
          rintro v580 w580 ⟨Fr562, rfl, hT580⟩
          have hS580 := hS579.lent hT580
          refine W_nil ?_
          refine N_code ?_
          refine C_cond rfl (fun hc581 => ?_) (fun hc581 => ?_)
          ·
           rw [if_t hc581] at H
           refine C_seq ?_
           refine C_region ?_
           refine W_assign rfl rfl ?_
           refine W_nil ?_
           refine N_code ?_
           obtain rfl := Option.some.inj H
           refine C_ret rfl rfl ?_
           exact ⟨F512, rfl, hS580.pick [] (by decide)⟩
          ·
           rw [if_f hc581] at H
           refine C_skip ?_
           refine N_block ?_
           refine N_code ?_
           refine C_region ?_
           refine W_move rfl rfl ?_
           refine W_add rfl rfl rfl rfl ?_
           refine W_assign rfl rfl ?_
           refine W_nil ?_
           exact N_againM ((b498 || r511), wr (i499 + 1)) _ H ⟨F512, rfl, (le497.trans le512), hS580⟩ ⟨rfl, rfl, rfl, rfl, rfl, rfl, rfl, rfl, trivial⟩
         ·
          rw [if_f hc504] at H
          refine C_exit _ rfl ?_
          exact N_join _ ⟨b498, H, ⟨F497, rfl, le497, hS497⟩⟩ ⟨rfl, rfl, rfl, rfl, rfl, rfl, trivial⟩
       ·
        rintro E w494 ⟨b495, H, F494, rfl, le494, hS494⟩
        dsimp only [cellarerlaw21_PlanRises.k13] at H
        refine C_seq ?_
        refine C_region ?_
        refine W_move rfl rfl ?_
        refine W_not rfl rfl ?_
        refine W_nil ?_
        refine N_code ?_
        refine C_cond rfl (fun hc496 => ?_) (fun hc496 => ?_)
        ·
         rw [if_t hc496] at H
         refine C_seq ?_
         refine C_region ?_
         refine W_assign rfl rfl ?_
         refine W_nil ?_
         refine N_code ?_
         obtain rfl := Option.some.inj H
         refine C_ret rfl rfl ?_
         exact ⟨F494, rfl, hS494.pick [] (by decide)⟩
        ·
         rw [if_f hc496] at H
         refine C_skip ?_
         refine N_block ?_
         exact N_join _ ⟨(l361.set x366.want.toNat (wr (x489 + 1))), H, ⟨F494, rfl, (le374.trans le494), hS494⟩⟩ ⟨rfl, rfl, rfl, rfl, rfl, trivial⟩
     ·
      rintro E w364 ⟨l365, H, F364, rfl, le364, hS364⟩
      dsimp only [cellarerlaw21_PlanRises.k12] at H
      refine C_region ?_
      refine W_move rfl rfl ?_
      refine W_add rfl rfl rfl rfl ?_
      refine W_assign rfl rfl ?_
      refine W_nil ?_
      exact N_againM (wr (i360 + 1), l365) _ H ⟨F364, rfl, (le359.trans le364), hS364⟩ ⟨rfl, rfl, rfl, rfl, rfl, trivial⟩
    ·
     rw [if_f hc363] at H
     refine C_exit _ rfl ?_
     exact N_join _ ⟨l361, H, ⟨F359, rfl, le359, hS359⟩⟩ ⟨rfl, rfl, rfl, rfl, trivial⟩
  ·
   rintro E w8 ⟨l9, H, F8, rfl, le8, hS8⟩
   dsimp only [cellarerlaw21_PlanRises.k1] at H
   refine C_seq_join (fun E wq => ∃ l11 : List Int, cellarerlaw21_PlanRises.k2 r4 l11 = some r ∧ ∃ (F10 : Frz), E = [(3, ur4_0), (5, v7)] ∧ F8.le F10 ∧ St [] w F F10 [.row tI 3 v7 l11, .row Read.t 39 ur4_0 r4.1] wq) ?_ ?_
   ·
    refine C_seq ?_
    refine C_region ?_
    refine W_assign rfl rfl ?_
    refine W_nil ?_
    refine N_code ?_
    refine C_block ?_
    refine C_loopM (fun (s : Int × (List Int)) E wq => ∃ (F89 : Frz), E = [(0, v0), (3, ur4_0), (4, ur4_1), (5, v7), (10, .int .i64 s.1)] ∧ F8.le F89 ∧ St [] w F F89 [.row tI 3 v7 s.2, .row Read.t 39 ur4_0 r4.1, .row tI 3 ur4_1 r4.2] wq) H ?_ ?_
    ·
     exact ⟨_, ⟨F8, rfl, (Frz.le.refl _), hS8⟩, ⟨rfl, rfl, rfl, rfl, rfl, trivial⟩⟩
    ·
     rintro rec92 ⟨i90, l91⟩ E w89 hI H
     try dsimp only at hI
     obtain ⟨F89, rfl, le89, hS89⟩ := hI
     dsimp only [cellarerlaw21_PlanRises.l10] at H
     refine C_seq ?_
     refine C_seq ?_
     refine C_region ?_
     refine W_move rfl rfl ?_
     refine W_move rfl rfl ?_
     refine W_lenv rfl Go.Proofs.Try.underlying22 rfl (hS89.rowLn (k := 2) rfl) ?_
     refine W_lss rfl rfl rfl ?_
     refine W_nil ?_
     refine N_code ?_
     refine C_cond rfl (fun hc93 => ?_) (fun hc93 => ?_)
     ·
      rw [if_t hc93] at H
      refine C_skip ?_
      refine N_code ?_
      refine C_seq ?_
      refine C_block ?_
      refine C_seq ?_
      refine C_seq ?_
      obtain ⟨x94, hx94, H⟩ := bd_some H
      obtain ⟨x96, hx96, H⟩ := bd_some H
      obtain ⟨x98, hx98, H⟩ := bd_some H
      obtain ⟨x100, hx100, H⟩ := bd_some H
      obtain ⟨x102, hx102, H⟩ := bd_some H
      obtain ⟨x104, hx104, H⟩ := bd_some H
      refine C_join (fun E wq => E = [(0, v0), (3, ur4_0), (4, ur4_1), (5, v7), (10, .int .i64 i90), (159, .bool (((decide (x94 < 0) || decide ((x0.length : Int) ≤ x96)) || decide (0 < (x100.locs.length : Int))) || (decide (0 < i90) && decide (x102 ≤ x104))))] ∧ ∃ F106 : Frz, F89.le F106 ∧ St [] w F F106 [.row tI 3 v7 l91, .row Read.t 39 ur4_0 r4.1, .row tI 3 ur4_1 r4.2] wq) ?_ ?_
      ·
       rcases Bool.eq_false_or_eq_true (decide (x94 < 0)) with hb107 | hb107
       ·
        obtain ⟨hp108, hy108⟩ := ix_some hx94
        obtain ⟨cs108, hr108, he108⟩ := hS89.rowAt (k := 2) rfl hy108
        obtain rfl := hr108
        replace he108 : El _ _ 1 _ _ := he108
        apply C_draw 41 [[], [], [0, 1], [2], [3], [4], [5], [5], [6, 7, 5], [8, 5], [5], [10, 5], [9, 11, 5], [5, 12], [13], [14], [14], [14], [16, 17, 14], [18, 14], [15, 19, 14], [20, 14], [21, 14], [22, 14], [23, 14], [14, 24], [25], [26], [27, 26], [28, 26], [29], [29], [30, 31, 29], [32, 29], [29], [29], [35, 29], [34, 36, 29], [37, 29], [33, 38, 29], [29, 39, 26]] [.val (ur4_1), .val (.int .i64 i90), .val (elp ur4_1 (i90.toNat * 1)), .val (.int .i64 x94), .val (.bool (decide (x94 < 0))), .val (.bool true), .val undef, .val undef, .val undef, .val undef, .val undef, .val undef, .val undef, .val (.bool true), .val (.bool true), .val undef, .val undef, .val undef, .val undef, .val undef, .val undef, .val undef, .val undef, .val undef, .val undef, .val (.bool true), .val (.bool true), .val undef, .val undef, .val undef, .val undef, .val undef, .val undef, .val undef, .val undef, .val undef, .val undef, .val undef, .val undef, .val undef, .val undef] Ty.mixed rfl rfl (by kernel_rfl) (by kernel_rfl) rfl
        ·
         refine ⟨?_, ?_, ?_, ?_, ?_, ?_, ?_, ?_, ?_, ?_, ?_, ?_, ?_, ?_, ?_, ?_, ?_, ?_, ?_, ?_, ?_, ?_, ?_, ?_, ?_, ?_, ?_, ?_, ?_, ?_, ?_, ?_, ?_, ?_, ?_, ?_, ?_, ?_, ?_, ?_, ?_, trivial⟩
         ·
          intro w109 vq109 hB109 hH109
          have hS109 := hS89.below hB109
          refine W_move rfl rfl ?_
          refine W_nil ?_
          exact N_step rfl rfl (Below.refl _ _)
         ·
          intro w110 vq110 hB110 hH110
          have hS110 := hS89.below hB110
          refine W_move rfl rfl ?_
          refine W_nil ?_
          exact N_step rfl rfl (Below.refl _ _)
         ·
          intro w111 vq111 hB111 hH111
          have hS111 := hS89.below hB111
          refine W_ix rfl Go.Proofs.Try.underlying22 Ty.cells3 Ty.info3 rfl rfl (he108.below hB111) hp108 rfl ?_
          refine W_nil ?_
          exact N_step rfl rfl (Below.refl _ _)
         ·
          intro w112 vq112 hB112 hH112
          have hS112 := hS89.below hB112
          refine W_ld1 0 rfl Ty.cell3 rfl (he108.below hB112) (by omega) rfl ?_
          refine W_nil ?_
          exact N_step rfl rfl (Below.refl _ _)
         ·
          intro w113 vq113 hB113 hH113
          have hS113 := hS89.below hB113
          refine W_lss rfl rfl rfl ?_
          refine W_nil ?_
          exact N_step rfl rfl (Below.refl _ _)
         ·
          intro w114 vq114 hB114 hH114
          have hS114 := hS89.below hB114
          refine W_move rfl rfl ?_
          refine W_nil ?_
          exact N_step rfl (congrArg Value.bool hb107) (Below.refl _ _)
         ·
          intro w115 vq115 hB115 hH115
          have hS115 := hS89.below hB115
          refine W_guard_no rfl rfl rfl rfl rfl ?_
          refine W_nil ?_
          exact N_step rfl rfl (Below.refl _ _)
         ·
          intro w116 vq116 hB116 hH116
          have hS116 := hS89.below hB116
          refine W_guard_no rfl rfl rfl rfl rfl ?_
          refine W_nil ?_
          exact N_step rfl rfl (Below.refl _ _)
         ·
          intro w117 vq117 hB117 hH117
          have hS117 := hS89.below hB117
          refine W_guard_no rfl rfl rfl rfl rfl ?_
          refine W_nil ?_
          exact N_step rfl rfl (Below.refl _ _)
         ·
          intro w118 vq118 hB118 hH118
          have hS118 := hS89.below hB118
          refine W_guard_no rfl rfl rfl rfl rfl ?_
          refine W_nil ?_
          exact N_step rfl rfl (Below.refl _ _)
         ·
          intro w119 vq119 hB119 hH119
          have hS119 := hS89.below hB119
          refine W_guard_no rfl rfl rfl rfl rfl ?_
          refine W_nil ?_
          exact N_step rfl rfl (Below.refl _ _)
         ·
          intro w120 vq120 hB120 hH120
          have hS120 := hS89.below hB120
          refine W_guard_no rfl rfl rfl rfl rfl ?_
          refine W_nil ?_
          exact N_step rfl rfl (Below.refl _ _)
         ·
          intro w121 vq121 hB121 hH121
          have hS121 := hS89.below hB121
          refine W_guard_no rfl rfl rfl rfl rfl ?_
          refine W_nil ?_
          exact N_step rfl rfl (Below.refl _ _)
         ·
          intro w122 vq122 hB122 hH122
          have hS122 := hS89.below hB122
          refine W_pick_t rfl rfl rfl ?_
          refine W_nil ?_
          exact N_step rfl rfl (Below.refl _ _)
         ·
          intro w123 vq123 hB123 hH123
          have hS123 := hS89.below hB123
          refine W_move rfl rfl ?_
          refine W_nil ?_
          exact N_step rfl rfl (Below.refl _ _)
         ·
          intro w124 vq124 hB124 hH124
          have hS124 := hS89.below hB124
          refine W_guard_no rfl rfl rfl rfl rfl ?_
          refine W_nil ?_
          exact N_step rfl rfl (Below.refl _ _)
         ·
          intro w125 vq125 hB125 hH125
          have hS125 := hS89.below hB125
          refine W_guard_no rfl rfl rfl rfl rfl ?_
          refine W_nil ?_
          exact N_step rfl rfl (Below.refl _ _)
         ·
          intro w126 vq126 hB126 hH126
          have hS126 := hS89.below hB126
          refine W_guard_no rfl rfl rfl rfl rfl ?_
          refine W_nil ?_
          exact N_step rfl rfl (Below.refl _ _)
         ·
          intro w127 vq127 hB127 hH127
          have hS127 := hS89.below hB127
          refine W_guard_no rfl rfl rfl rfl rfl ?_
          refine W_nil ?_
          exact N_step rfl rfl (Below.refl _ _)
         ·
          intro w128 vq128 hB128 hH128
          have hS128 := hS89.below hB128
          refine W_guard_no rfl rfl rfl rfl rfl ?_
          refine W_nil ?_
          exact N_step rfl rfl (Below.refl _ _)
         ·
          intro w129 vq129 hB129 hH129
          have hS129 := hS89.below hB129
          refine W_guard_no rfl rfl rfl rfl rfl ?_
          refine W_nil ?_
          exact N_step rfl rfl (Below.refl _ _)
         ·
          intro w130 vq130 hB130 hH130
          have hS130 := hS89.below hB130
          refine W_guard_no rfl rfl rfl rfl rfl ?_
          refine W_nil ?_
          exact N_step rfl rfl (Below.refl _ _)
         ·
          intro w131 vq131 hB131 hH131
          have hS131 := hS89.below hB131
          refine W_guard_no rfl rfl rfl rfl rfl ?_
          refine W_nil ?_
          exact N_step rfl rfl (Below.refl _ _)
         ·
          intro w132 vq132 hB132 hH132
          have hS132 := hS89.below hB132
          refine W_guard_no rfl rfl rfl rfl rfl ?_
          refine W_nil ?_
          exact N_step rfl rfl (Below.refl _ _)
         ·
          intro w133 vq133 hB133 hH133
          have hS133 := hS89.below hB133
          refine W_guard_no rfl rfl rfl rfl rfl ?_
          refine W_nil ?_
          exact N_step rfl rfl (Below.refl _ _)
         ·
          intro w134 vq134 hB134 hH134
          have hS134 := hS89.below hB134
          refine W_pick_t rfl rfl rfl ?_
          refine W_nil ?_
          exact N_step rfl rfl (Below.refl _ _)
         ·
          intro w135 vq135 hB135 hH135
          have hS135 := hS89.below hB135
          refine W_move rfl rfl ?_
          refine W_nil ?_
          exact N_step rfl rfl (Below.refl _ _)
         ·
          intro w136 vq136 hB136 hH136
          have hS136 := hS89.below hB136
          refine W_guard_no rfl rfl rfl rfl rfl ?_
          refine W_nil ?_
          exact N_step rfl rfl (Below.refl _ _)
         ·
          intro w137 vq137 hB137 hH137
          have hS137 := hS89.below hB137
          refine W_guard_no rfl rfl rfl rfl rfl ?_
          refine W_nil ?_
          exact N_step rfl rfl (Below.refl _ _)
         ·
          intro w138 vq138 hB138 hH138
          have hS138 := hS89.below hB138
          refine W_guard_no rfl rfl rfl rfl rfl ?_
          refine W_nil ?_
          exact N_step rfl rfl (Below.refl _ _)
         ·
          intro w139 vq139 hB139 hH139
          have hS139 := hS89.below hB139
          refine W_guard_un rfl rfl rfl rfl ?_
          refine W_nil ?_
          exact N_step rfl rfl (Below.refl _ _)
         ·
          intro w140 vq140 hB140 hH140
          have hS140 := hS89.below hB140
          refine W_guard_un rfl rfl rfl rfl ?_
          refine W_nil ?_
          exact N_step rfl rfl (Below.refl _ _)
         ·
          intro w141 vq141 hB141 hH141
          have hS141 := hS89.below hB141
          refine W_guard_un rfl rfl rfl rfl ?_
          refine W_nil ?_
          exact N_step rfl rfl (Below.refl _ _)
         ·
          intro w142 vq142 hB142 hH142
          have hS142 := hS89.below hB142
          refine W_guard_un rfl rfl rfl rfl ?_
          refine W_nil ?_
          exact N_step rfl rfl (Below.refl _ _)
         ·
          intro w143 vq143 hB143 hH143
          have hS143 := hS89.below hB143
          refine W_guard_un rfl rfl rfl rfl ?_
          refine W_nil ?_
          exact N_step rfl rfl (Below.refl _ _)
         ·
          intro w144 vq144 hB144 hH144
          have hS144 := hS89.below hB144
          refine W_guard_un rfl rfl rfl rfl ?_
          refine W_nil ?_
          exact N_step rfl rfl (Below.refl _ _)
         ·
          intro w145 vq145 hB145 hH145
          have hS145 := hS89.below hB145
          refine W_guard_un rfl rfl rfl rfl ?_
          refine W_nil ?_
          exact N_step rfl rfl (Below.refl _ _)
         ·
          intro w146 vq146 hB146 hH146
          have hS146 := hS89.below hB146
          refine W_guard_un rfl rfl rfl rfl ?_
          refine W_nil ?_
          exact N_step rfl rfl (Below.refl _ _)
         ·
          intro w147 vq147 hB147 hH147
          have hS147 := hS89.below hB147
          refine W_guard_un rfl rfl rfl rfl ?_
          refine W_nil ?_
          exact N_step rfl rfl (Below.refl _ _)
         ·
          intro w148 vq148 hB148 hH148
          have hS148 := hS89.below hB148
          refine W_guard_un rfl rfl rfl rfl ?_
          refine W_nil ?_
          exact N_step rfl rfl (Below.refl _ _)
         ·
          intro w149 vq149 hB149 hH149
          have hS149 := hS89.below hB149
          refine W_guard_no rfl rfl rfl rfl rfl ?_
          refine W_nil ?_
          exact N_step rfl rfl (Below.refl _ _)
        intro w150 vq150 hB150 hH150
        have hS150 := hS89.below hB150
        refine W_pick_t rfl rfl rfl ?_
        refine W_nil ?_
        exact N_join _ ⟨rfl, F89, (Frz.le.refl _), hS150⟩ ⟨rfl, rfl, rfl, rfl, rfl, (look_bool rfl (by first | rfl | (rw [hb107]; first | done | rfl) | simp [hb107])), trivial⟩
       ·
        rcases Bool.eq_false_or_eq_true (decide ((x0.length : Int) ≤ x96)) with hb151 | hb151
        ·
         obtain ⟨hp152, hy152⟩ := ix_some hx94
         obtain ⟨cs152, hr152, he152⟩ := hS89.rowAt (k := 2) rfl hy152
         obtain rfl := hr152
         replace he152 : El _ _ 1 _ _ := he152
         have hy153 := hx96
         rw [only_t (by first | rfl | (rw [hb107]; first | done | rfl) | simp [hb107, hb151])] at hy153
         obtain ⟨hp154, hy154⟩ := ix_some hy153
         obtain ⟨cs154, hr154, he154⟩ := hS89.rowAt (k := 2) rfl hy154
         obtain rfl := hr154
         replace he154 : El _ _ 1 _ _ := he154
         apply C_draw 41 [[], [], [0, 1], [2], [3], [4], [5], [5], [6, 7, 5], [8, 5], [5], [10, 5], [9, 11, 5], [5, 12], [13], [14], [14], [14], [16, 17, 14], [18, 14], [15, 19, 14], [20, 14], [21, 14], [22, 14], [23, 14], [14, 24], [25], [26], [27, 26], [28, 26], [29], [29], [30, 31, 29], [32, 29], [29], [29], [35, 29], [34, 36, 29], [37, 29], [33, 38, 29], [29, 39, 26]] [.val (ur4_1), .val (.int .i64 i90), .val (elp ur4_1 (i90.toNat * 1)), .val (.int .i64 x94), .val (.bool (decide (x94 < 0))), .val (.bool false), .val (ur4_1), .val (.int .i64 i90), .val (elp ur4_1 (i90.toNat * 1)), .val (.int .i64 x96), .val (v0), .val (.int .i64 (x0.length : Int)), .val (.bool (decide ((x0.length : Int) ≤ x96))), .val (.bool (decide ((x0.length : Int) ≤ x96))), .val (.bool true), .val undef, .val undef, .val undef, .val undef, .val undef, .val undef, .val undef, .val undef, .val undef, .val undef, .val (.bool true), .val (.bool true), .val undef, .val undef, .val undef, .val undef, .val undef, .val undef, .val undef, .val undef, .val undef, .val undef, .val undef, .val undef, .val undef, .val undef] Ty.mixed rfl rfl (by kernel_rfl) (by kernel_rfl) rfl
         ·
          refine ⟨?_, ?_, ?_, ?_, ?_, ?_, ?_, ?_, ?_, ?_, ?_, ?_, ?_, ?_, ?_, ?_, ?_, ?_, ?_, ?_, ?_, ?_, ?_, ?_, ?_, ?_, ?_, ?_, ?_, ?_, ?_, ?_, ?_, ?_, ?_, ?_, ?_, ?_, ?_, ?_, ?_, trivial⟩
          ·
           intro w155 vq155 hB155 hH155
           have hS155 := hS89.below hB155
           refine W_move rfl rfl ?_
           refine W_nil ?_
           exact N_step rfl rfl (Below.refl _ _)
          ·
           intro w156 vq156 hB156 hH156
           have hS156 := hS89.below hB156
           refine W_move rfl rfl ?_
           refine W_nil ?_
           exact N_step rfl rfl (Below.refl _ _)
          ·
           intro w157 vq157 hB157 hH157
           have hS157 := hS89.below hB157
           refine W_ix rfl Go.Proofs.Try.underlying22 Ty.cells3 Ty.info3 rfl rfl (he152.below hB157) hp152 rfl ?_
           refine W_nil ?_
           exact N_step rfl rfl (Below.refl _ _)
          ·
           intro w158 vq158 hB158 hH158
           have hS158 := hS89.below hB158
           refine W_ld1 0 rfl Ty.cell3 rfl (he152.below hB158) (by omega) rfl ?_
           refine W_nil ?_
           exact N_step rfl rfl (Below.refl _ _)
          ·
           intro w159 vq159 hB159 hH159
           have hS159 := hS89.below hB159
           refine W_lss rfl rfl rfl ?_
           refine W_nil ?_
           exact N_step rfl rfl (Below.refl _ _)
          ·
           intro w160 vq160 hB160 hH160
           have hS160 := hS89.below hB160
           refine W_move rfl rfl ?_
           refine W_nil ?_
           exact N_step rfl (congrArg Value.bool hb107) (Below.refl _ _)
          ·
           intro w161 vq161 hB161 hH161
           have hS161 := hS89.below hB161
           refine W_guard_yes rfl ?_
           refine W_move rfl rfl ?_
           refine W_nil ?_
           exact N_step rfl rfl (Below.refl _ _)
          ·
           intro w162 vq162 hB162 hH162
           have hS162 := hS89.below hB162
           refine W_guard_yes rfl ?_
           refine W_move rfl rfl ?_
           refine W_nil ?_
           exact N_step rfl rfl (Below.refl _ _)
          ·
           intro w163 vq163 hB163 hH163
           have hS163 := hS89.below hB163
           refine W_guard_yes rfl ?_
           refine W_ix rfl Go.Proofs.Try.underlying22 Ty.cells3 Ty.info3 rfl rfl (he154.below hB163) hp154 rfl ?_
           refine W_nil ?_
           exact N_step rfl rfl (Below.refl _ _)
          ·
           intro w164 vq164 hB164 hH164
           have hS164 := hS89.below hB164
           refine W_guard_yes rfl ?_
           refine W_ld1 0 rfl Ty.cell3 rfl (he154.below hB164) (by omega) rfl ?_
           refine W_nil ?_
           exact N_step rfl rfl (Below.refl _ _)
          ·
           intro w165 vq165 hB165 hH165
           have hS165 := hS89.below hB165
           refine W_guard_yes rfl ?_
           refine W_move rfl rfl ?_
           refine W_nil ?_
           exact N_step rfl rfl (Below.refl _ _)
          ·
           intro w166 vq166 hB166 hH166
           have hS166 := hS89.below hB166
           refine W_guard_yes rfl ?_
           refine W_lenv rfl Go.Proofs.Try.underlying47 rfl h0.ln ?_
           refine W_nil ?_
           exact N_step rfl rfl (Below.refl _ _)
          ·
           intro w167 vq167 hB167 hH167
           have hS167 := hS89.below hB167
           refine W_guard_yes rfl ?_
           refine W_geq rfl rfl rfl ?_
           refine W_nil ?_
           exact N_step rfl rfl (Below.refl _ _)
          ·
           intro w168 vq168 hB168 hH168
           have hS168 := hS89.below hB168
           refine W_pick_f rfl rfl rfl ?_
           refine W_nil ?_
           exact N_step rfl rfl (Below.refl _ _)
          ·
           intro w169 vq169 hB169 hH169
           have hS169 := hS89.below hB169
           refine W_move rfl rfl ?_
           refine W_nil ?_
           exact N_step rfl (congrArg Value.bool hb151) (Below.refl _ _)
          ·
           intro w170 vq170 hB170 hH170
           have hS170 := hS89.below hB170
           refine W_guard_no rfl rfl rfl rfl rfl ?_
           refine W_nil ?_
           exact N_step rfl rfl (Below.refl _ _)
          ·
           intro w171 vq171 hB171 hH171
           have hS171 := hS89.below hB171
           refine W_guard_no rfl rfl rfl rfl rfl ?_
           refine W_nil ?_
           exact N_step rfl rfl (Below.refl _ _)
          ·
           intro w172 vq172 hB172 hH172
           have hS172 := hS89.below hB172
           refine W_guard_no rfl rfl rfl rfl rfl ?_
           refine W_nil ?_
           exact N_step rfl rfl (Below.refl _ _)
          ·
           intro w173 vq173 hB173 hH173
           have hS173 := hS89.below hB173
           refine W_guard_no rfl rfl rfl rfl rfl ?_
           refine W_nil ?_
           exact N_step rfl rfl (Below.refl _ _)
          ·
           intro w174 vq174 hB174 hH174
           have hS174 := hS89.below hB174
           refine W_guard_no rfl rfl rfl rfl rfl ?_
           refine W_nil ?_
           exact N_step rfl rfl (Below.refl _ _)
          ·
           intro w175 vq175 hB175 hH175
           have hS175 := hS89.below hB175
           refine W_guard_no rfl rfl rfl rfl rfl ?_
           refine W_nil ?_
           exact N_step rfl rfl (Below.refl _ _)
          ·
           intro w176 vq176 hB176 hH176
           have hS176 := hS89.below hB176
           refine W_guard_no rfl rfl rfl rfl rfl ?_
           refine W_nil ?_
           exact N_step rfl rfl (Below.refl _ _)
          ·
           intro w177 vq177 hB177 hH177
           have hS177 := hS89.below hB177
           refine W_guard_no rfl rfl rfl rfl rfl ?_
           refine W_nil ?_
           exact N_step rfl rfl (Below.refl _ _)
          ·
           intro w178 vq178 hB178 hH178
           have hS178 := hS89.below hB178
           refine W_guard_no rfl rfl rfl rfl rfl ?_
           refine W_nil ?_
           exact N_step rfl rfl (Below.refl _ _)
          ·
           intro w179 vq179 hB179 hH179
           have hS179 := hS89.below hB179
           refine W_guard_no rfl rfl rfl rfl rfl ?_
           refine W_nil ?_
           exact N_step rfl rfl (Below.refl _ _)
          ·
           intro w180 vq180 hB180 hH180
           have hS180 := hS89.below hB180
           refine W_pick_t rfl rfl rfl ?_
           refine W_nil ?_
           exact N_step rfl rfl (Below.refl _ _)
          ·
           intro w181 vq181 hB181 hH181
           have hS181 := hS89.below hB181
           refine W_move rfl rfl ?_
           refine W_nil ?_
           exact N_step rfl rfl (Below.refl _ _)
          ·
           intro w182 vq182 hB182 hH182
           have hS182 := hS89.below hB182
           refine W_guard_no rfl rfl rfl rfl rfl ?_
           refine W_nil ?_
           exact N_step rfl rfl (Below.refl _ _)
          ·
           intro w183 vq183 hB183 hH183
           have hS183 := hS89.below hB183
           refine W_guard_no rfl rfl rfl rfl rfl ?_
           refine W_nil ?_
           exact N_step rfl rfl (Below.refl _ _)
          ·
           intro w184 vq184 hB184 hH184
           have hS184 := hS89.below hB184
           refine W_guard_no rfl rfl rfl rfl rfl ?_
           refine W_nil ?_
           exact N_step rfl rfl (Below.refl _ _)
          ·
           intro w185 vq185 hB185 hH185
           have hS185 := hS89.below hB185
           refine W_guard_un rfl rfl rfl rfl ?_
           refine W_nil ?_
           exact N_step rfl rfl (Below.refl _ _)
          ·
           intro w186 vq186 hB186 hH186
           have hS186 := hS89.below hB186
           refine W_guard_un rfl rfl rfl rfl ?_
           refine W_nil ?_
           exact N_step rfl rfl (Below.refl _ _)
          ·
           intro w187 vq187 hB187 hH187
           have hS187 := hS89.below hB187
           refine W_guard_un rfl rfl rfl rfl ?_
           refine W_nil ?_
           exact N_step rfl rfl (Below.refl _ _)
          ·
           intro w188 vq188 hB188 hH188
           have hS188 := hS89.below hB188
           refine W_guard_un rfl rfl rfl rfl ?_
           refine W_nil ?_
           exact N_step rfl rfl (Below.refl _ _)
          ·
           intro w189 vq189 hB189 hH189
           have hS189 := hS89.below hB189
           refine W_guard_un rfl rfl rfl rfl ?_
           refine W_nil ?_
           exact N_step rfl rfl (Below.refl _ _)
          ·
           intro w190 vq190 hB190 hH190
           have hS190 := hS89.below hB190
           refine W_guard_un rfl rfl rfl rfl ?_
           refine W_nil ?_
           exact N_step rfl rfl (Below.refl _ _)
          ·
           intro w191 vq191 hB191 hH191
           have hS191 := hS89.below hB191
           refine W_guard_un rfl rfl rfl rfl ?_
           refine W_nil ?_
           exact N_step rfl rfl (Below.refl _ _)
          ·
           intro w192 vq192 hB192 hH192
           have hS192 := hS89.below hB192
           refine W_guard_un rfl rfl rfl rfl ?_
           refine W_nil ?_
           exact N_step rfl rfl (Below.refl _ _)
          ·
           intro w193 vq193 hB193 hH193
           have hS193 := hS89.below hB193
           refine W_guard_un rfl rfl rfl rfl ?_
           refine W_nil ?_
           exact N_step rfl rfl (Below.refl _ _)
          ·
           intro w194 vq194 hB194 hH194
           have hS194 := hS89.below hB194
           refine W_guard_un rfl rfl rfl rfl ?_
           refine W_nil ?_
           exact N_step rfl rfl (Below.refl _ _)
          ·
           intro w195 vq195 hB195 hH195
           have hS195 := hS89.below hB195
           refine W_guard_no rfl rfl rfl rfl rfl ?_
           refine W_nil ?_
           exact N_step rfl rfl (Below.refl _ _)
         intro w196 vq196 hB196 hH196
         have hS196 := hS89.below hB196
         refine W_pick_t rfl rfl rfl ?_
         refine W_nil ?_
         exact N_join _ ⟨rfl, F89, (Frz.le.refl _), hS196⟩ ⟨rfl, rfl, rfl, rfl, rfl, (look_bool rfl (by first | rfl | (rw [hb151, hb107]; first | done | rfl) | simp [hb107, hb151])), trivial⟩
        ·
         rcases Bool.eq_false_or_eq_true (decide (0 < (x100.locs.length : Int))) with hb197 | hb197
         ·
          obtain ⟨hp198, hy198⟩ := ix_some hx94
          obtain ⟨cs198, hr198, he198⟩ := hS89.rowAt (k := 2) rfl hy198
          obtain rfl := hr198
          replace he198 : El _ _ 1 _ _ := he198
          have hy199 := hx96
          rw [only_t (by first | rfl | (rw [hb107]; first | done | rfl) | simp [hb107, hb151, hb197])] at hy199
          obtain ⟨hp200, hy200⟩ := ix_some hy199
          obtain ⟨cs200, hr200, he200⟩ := hS89.rowAt (k := 2) rfl hy200
          obtain rfl := hr200
          replace he200 : El _ _ 1 _ _ := he200
          have hy201 := hx98
          rw [only_t (by first | rfl | (rw [hb151, hb107]; first | done | rfl) | simp [hb107, hb151, hb197])] at hy201
          obtain ⟨hp202, hy202⟩ := ix_some hy201
          obtain ⟨cs202, hr202, he202⟩ := hS89.rowAt (k := 2) rfl hy202
          obtain rfl := hr202
          replace he202 : El _ _ 1 _ _ := he202
          have hy203 := hx100
          rw [only_t (by first | rfl | (rw [hb151, hb107]; first | done | rfl) | simp [hb107, hb151, hb197])] at hy203
          obtain ⟨hp204, hy204⟩ := ix_some hy203
          obtain ⟨cs204, hr204, he204⟩ := (h0.mono ((ler4.trans le8).trans le89)).at_ hy204
          obtain ⟨ue101_0, rfl, hle101_0, hue101_0⟩ := hr204
          replace he204 : Elf _ _ 33 _ _ := he204
          apply C_draw 41 [[], [], [0, 1], [2], [3], [4], [5], [5], [6, 7, 5], [8, 5], [5], [10, 5], [9, 11, 5], [5, 12], [13], [14], [14], [14], [16, 17, 14], [18, 14], [15, 19, 14], [20, 14], [21, 14], [22, 14], [23, 14], [14, 24], [25], [26], [27, 26], [28, 26], [29], [29], [30, 31, 29], [32, 29], [29], [29], [35, 29], [34, 36, 29], [37, 29], [33, 38, 29], [29, 39, 26]] [.val (ur4_1), .val (.int .i64 i90), .val (elp ur4_1 (i90.toNat * 1)), .val (.int .i64 x94), .val (.bool (decide (x94 < 0))), .val (.bool false), .val (ur4_1), .val (.int .i64 i90), .val (elp ur4_1 (i90.toNat * 1)), .val (.int .i64 x96), .val (v0), .val (.int .i64 (x0.length : Int)), .val (.bool (decide ((x0.length : Int) ≤ x96))), .val (.bool (decide ((x0.length : Int) ≤ x96))), .val (.bool false), .val (v0), .val (ur4_1), .val (.int .i64 i90), .val (elp ur4_1 (i90.toNat * 1)), .val (.int .i64 x98), .val (elp v0 (x98.toNat * 33)), .val (elp v0 ((x98.toNat * 33) + 32)), .val (ue101_0), .val (.int .i64 (x100.locs.length : Int)), .val (.bool (decide (0 < (x100.locs.length : Int)))), .val (.bool (decide (0 < (x100.locs.length : Int)))), .val (.bool true), .val undef, .val undef, .val undef, .val undef, .val undef, .val undef, .val undef, .val undef, .val undef, .val undef, .val undef, .val undef, .val undef, .val undef] Ty.mixed rfl rfl (by kernel_rfl) (by kernel_rfl) rfl
          ·
           refine ⟨?_, ?_, ?_, ?_, ?_, ?_, ?_, ?_, ?_, ?_, ?_, ?_, ?_, ?_, ?_, ?_, ?_, ?_, ?_, ?_, ?_, ?_, ?_, ?_, ?_, ?_, ?_, ?_, ?_, ?_, ?_, ?_, ?_, ?_, ?_, ?_, ?_, ?_, ?_, ?_, ?_, trivial⟩
           ·
            intro w205 vq205 hB205 hH205
            have hS205 := hS89.below hB205
            refine W_move rfl rfl ?_
            refine W_nil ?_
            exact N_step rfl rfl (Below.refl _ _)
           ·
            intro w206 vq206 hB206 hH206
            have hS206 := hS89.below hB206
            refine W_move rfl rfl ?_
            refine W_nil ?_
            exact N_step rfl rfl (Below.refl _ _)
           ·
            intro w207 vq207 hB207 hH207
            have hS207 := hS89.below hB207
            refine W_ix rfl Go.Proofs.Try.underlying22 Ty.cells3 Ty.info3 rfl rfl (he198.below hB207) hp198 rfl ?_
            refine W_nil ?_
            exact N_step rfl rfl (Below.refl _ _)
           ·
            intro w208 vq208 hB208 hH208
            have hS208 := hS89.below hB208
            refine W_ld1 0 rfl Ty.cell3 rfl (he198.below hB208) (by omega) rfl ?_
            refine W_nil ?_
            exact N_step rfl rfl (Below.refl _ _)
           ·
            intro w209 vq209 hB209 hH209
            have hS209 := hS89.below hB209
            refine W_lss rfl rfl rfl ?_
            refine W_nil ?_
            exact N_step rfl rfl (Below.refl _ _)
           ·
            intro w210 vq210 hB210 hH210
            have hS210 := hS89.below hB210
            refine W_move rfl rfl ?_
            refine W_nil ?_
            exact N_step rfl (congrArg Value.bool hb107) (Below.refl _ _)
           ·
            intro w211 vq211 hB211 hH211
            have hS211 := hS89.below hB211
            refine W_guard_yes rfl ?_
            refine W_move rfl rfl ?_
            refine W_nil ?_
            exact N_step rfl rfl (Below.refl _ _)
           ·
            intro w212 vq212 hB212 hH212
            have hS212 := hS89.below hB212
            refine W_guard_yes rfl ?_
            refine W_move rfl rfl ?_
            refine W_nil ?_
            exact N_step rfl rfl (Below.refl _ _)
           ·
            intro w213 vq213 hB213 hH213
            have hS213 := hS89.below hB213
            refine W_guard_yes rfl ?_
            refine W_ix rfl Go.Proofs.Try.underlying22 Ty.cells3 Ty.info3 rfl rfl (he200.below hB213) hp200 rfl ?_
            refine W_nil ?_
            exact N_step rfl rfl (Below.refl _ _)
           ·
            intro w214 vq214 hB214 hH214
            have hS214 := hS89.below hB214
            refine W_guard_yes rfl ?_
            refine W_ld1 0 rfl Ty.cell3 rfl (he200.below hB214) (by omega) rfl ?_
            refine W_nil ?_
            exact N_step rfl rfl (Below.refl _ _)
           ·
            intro w215 vq215 hB215 hH215
            have hS215 := hS89.below hB215
            refine W_guard_yes rfl ?_
            refine W_move rfl rfl ?_
            refine W_nil ?_
            exact N_step rfl rfl (Below.refl _ _)
           ·
            intro w216 vq216 hB216 hH216
            have hS216 := hS89.below hB216
            refine W_guard_yes rfl ?_
            refine W_lenv rfl Go.Proofs.Try.underlying47 rfl h0.ln ?_
            refine W_nil ?_
            exact N_step rfl rfl (Below.refl _ _)
           ·
            intro w217 vq217 hB217 hH217
            have hS217 := hS89.below hB217
            refine W_guard_yes rfl ?_
            refine W_geq rfl rfl rfl ?_
            refine W_nil ?_
            exact N_step rfl rfl (Below.refl _ _)
           ·
            intro w218 vq218 hB218 hH218
            have hS218 := hS89.below hB218
            refine W_pick_f rfl rfl rfl ?_
            refine W_nil ?_
            exact N_step rfl rfl (Below.refl _ _)
           ·
            intro w219 vq219 hB219 hH219
            have hS219 := hS89.below hB219
            refine W_move rfl rfl ?_
            refine W_nil ?_
            exact N_step rfl (congrArg Value.bool hb151) (Below.refl _ _)
           ·
            intro w220 vq220 hB220 hH220
            have hS220 := hS89.below hB220
            refine W_guard_yes rfl ?_
            refine W_move rfl rfl ?_
            refine W_nil ?_
            exact N_step rfl rfl (Below.refl _ _)
           ·
            intro w221 vq221 hB221 hH221
            have hS221 := hS89.below hB221
            refine W_guard_yes rfl ?_
            refine W_move rfl rfl ?_
            refine W_nil ?_
            exact N_step rfl rfl (Below.refl _ _)
           ·
            intro w222 vq222 hB222 hH222
            have hS222 := hS89.below hB222
            refine W_guard_yes rfl ?_
            refine W_move rfl rfl ?_
            refine W_nil ?_
            exact N_step rfl rfl (Below.refl _ _)
           ·
            intro w223 vq223 hB223 hH223
            have hS223 := hS89.below hB223
            refine W_guard_yes rfl ?_
            refine W_ix rfl Go.Proofs.Try.underlying22 Ty.cells3 Ty.info3 rfl rfl (he202.below hB223) hp202 rfl ?_
            refine W_nil ?_
            exact N_step rfl rfl (Below.refl _ _)
           ·
            intro w224 vq224 hB224 hH224
            have hS224 := hS89.below hB224
            refine W_guard_yes rfl ?_
            refine W_ld1 0 rfl Ty.cell3 rfl (he202.below hB224) (by omega) rfl ?_
            refine W_nil ?_
            exact N_step rfl rfl (Below.refl _ _)
           ·
            intro w225 vq225 hB225 hH225
            have hS225 := hS89.below hB225
            refine W_guard_yes rfl ?_
            refine W_ix rfl Go.Proofs.Try.underlying47 Ty.cells52 Ty.info52 rfl rfl (he204.el hS225.agree) hp204 rfl ?_
            refine W_nil ?_
            exact N_step rfl rfl (Below.refl _ _)
           ·
            intro w226 vq226 hB226 hH226
            have hS226 := hS89.below hB226
            refine W_guard_yes rfl ?_
            refine W_fld 32 rfl Ty.field52_1 rfl (he204.el hS226.agree) ?_
            refine W_nil ?_
            exact N_step rfl rfl (Below.refl _ _)
           ·
            intro w227 vq227 hB227 hH227
            have hS227 := hS89.below hB227
            refine W_guard_yes rfl ?_
            refine W_ld1 32 rfl Ty.cell49 rfl (he204.el hS227.agree) (by omega) rfl ?_
            refine W_nil ?_
            exact N_step rfl rfl (Below.refl _ _)
           ·
            intro w228 vq228 hB228 hH228
            have hS228 := hS89.below hB228
            refine W_guard_yes rfl ?_
            refine W_lenv rfl Go.Proofs.Try.underlying49 rfl hue101_0.ln ?_
            refine W_nil ?_
            exact N_step rfl rfl (Below.refl _ _)
           ·
            intro w229 vq229 hB229 hH229
            have hS229 := hS89.below hB229
            refine W_guard_yes rfl ?_
            refine W_gtr rfl rfl rfl ?_
            refine W_nil ?_
            exact N_step rfl rfl (Below.refl _ _)
           ·
            intro w230 vq230 hB230 hH230
            have hS230 := hS89.below hB230
            refine W_pick_f rfl rfl rfl ?_
            refine W_nil ?_
            exact N_step rfl rfl (Below.refl _ _)
           ·
            intro w231 vq231 hB231 hH231
            have hS231 := hS89.below hB231
            refine W_move rfl rfl ?_
            refine W_nil ?_
            exact N_step rfl (congrArg Value.bool hb197) (Below.refl _ _)
           ·
            intro w232 vq232 hB232 hH232
            have hS232 := hS89.below hB232
            refine W_guard_no rfl rfl rfl rfl rfl ?_
            refine W_nil ?_
            exact N_step rfl rfl (Below.refl _ _)
           ·
            intro w233 vq233 hB233 hH233
            have hS233 := hS89.below hB233
            refine W_guard_no rfl rfl rfl rfl rfl ?_
            refine W_nil ?_
            exact N_step rfl rfl (Below.refl _ _)
           ·
            intro w234 vq234 hB234 hH234
            have hS234 := hS89.below hB234
            refine W_guard_no rfl rfl rfl rfl rfl ?_
            refine W_nil ?_
            exact N_step rfl rfl (Below.refl _ _)
           ·
            intro w235 vq235 hB235 hH235
            have hS235 := hS89.below hB235
            refine W_guard_un rfl rfl rfl rfl ?_
            refine W_nil ?_
            exact N_step rfl rfl (Below.refl _ _)
           ·
            intro w236 vq236 hB236 hH236
            have hS236 := hS89.below hB236
            refine W_guard_un rfl rfl rfl rfl ?_
            refine W_nil ?_
            exact N_step rfl rfl (Below.refl _ _)
           ·
            intro w237 vq237 hB237 hH237
            have hS237 := hS89.below hB237
            refine W_guard_un rfl rfl rfl rfl ?_
            refine W_nil ?_
            exact N_step rfl rfl (Below.refl _ _)
           ·
            intro w238 vq238 hB238 hH238
            have hS238 := hS89.below hB238
            refine W_guard_un rfl rfl rfl rfl ?_
            refine W_nil ?_
            exact N_step rfl rfl (Below.refl _ _)
           ·
            intro w239 vq239 hB239 hH239
            have hS239 := hS89.below hB239
            refine W_guard_un rfl rfl rfl rfl ?_
            refine W_nil ?_
            exact N_step rfl rfl (Below.refl _ _)
           ·
            intro w240 vq240 hB240 hH240
            have hS240 := hS89.below hB240
            refine W_guard_un rfl rfl rfl rfl ?_
            refine W_nil ?_
            exact N_step rfl rfl (Below.refl _ _)
           ·
            intro w241 vq241 hB241 hH241
            have hS241 := hS89.below hB241
            refine W_guard_un rfl rfl rfl rfl ?_
            refine W_nil ?_
            exact N_step rfl rfl (Below.refl _ _)
           ·
            intro w242 vq242 hB242 hH242
            have hS242 := hS89.below hB242
            refine W_guard_un rfl rfl rfl rfl ?_
            refine W_nil ?_
            exact N_step rfl rfl (Below.refl _ _)
           ·
            intro w243 vq243 hB243 hH243
            have hS243 := hS89.below hB243
            refine W_guard_un rfl rfl rfl rfl ?_
            refine W_nil ?_
            exact N_step rfl rfl (Below.refl _ _)
           ·
            intro w244 vq244 hB244 hH244
            have hS244 := hS89.below hB244
            refine W_guard_un rfl rfl rfl rfl ?_
            refine W_nil ?_
            exact N_step rfl rfl (Below.refl _ _)
           ·
            intro w245 vq245 hB245 hH245
            have hS245 := hS89.below hB245
            refine W_guard_no rfl rfl rfl rfl rfl ?_
            refine W_nil ?_
            exact N_step rfl rfl (Below.refl _ _)
          intro w246 vq246 hB246 hH246
          have hS246 := hS89.below hB246
          refine W_pick_t rfl rfl rfl ?_
          refine W_nil ?_
          exact N_join _ ⟨rfl, F89, (Frz.le.refl _), hS246⟩ ⟨rfl, rfl, rfl, rfl, rfl, (look_bool rfl (by first | rfl | (rw [hb197, hb151, hb107]; first | done | rfl) | simp [hb107, hb151, hb197])), trivial⟩
         ·
          rcases Bool.eq_false_or_eq_true (decide (0 < i90)) with hb247 | hb247
          ·
           obtain ⟨hp248, hy248⟩ := ix_some hx94
           obtain ⟨cs248, hr248, he248⟩ := hS89.rowAt (k := 2) rfl hy248
           obtain rfl := hr248
           replace he248 : El _ _ 1 _ _ := he248
           have hy249 := hx96
           rw [only_t (by first | rfl | (rw [hb107]; first | done | rfl) | simp [hb107, hb151, hb197, hb247])] at hy249
           obtain ⟨hp250, hy250⟩ := ix_some hy249
           obtain ⟨cs250, hr250, he250⟩ := hS89.rowAt (k := 2) rfl hy250
           obtain rfl := hr250
           replace he250 : El _ _ 1 _ _ := he250
           have hy251 := hx98
           rw [only_t (by first | rfl | (rw [hb151, hb107]; first | done | rfl) | simp [hb107, hb151, hb197, hb247])] at hy251
           obtain ⟨hp252, hy252⟩ := ix_some hy251
           obtain ⟨cs252, hr252, he252⟩ := hS89.rowAt (k := 2) rfl hy252
           obtain rfl := hr252
           replace he252 : El _ _ 1 _ _ := he252
           have hy253 := hx100
           rw [only_t (by first | rfl | (rw [hb151, hb107]; first | done | rfl) | simp [hb107, hb151, hb197, hb247])] at hy253
           obtain ⟨hp254, hy254⟩ := ix_some hy253
           obtain ⟨cs254, hr254, he254⟩ := (h0.mono ((ler4.trans le8).trans le89)).at_ hy254
           obtain ⟨ue101_0, rfl, hle101_0, hue101_0⟩ := hr254
           replace he254 : Elf _ _ 33 _ _ := he254
           have hy255 := hx102
           rw [only_t (by first | rfl | (rw [hb197, hb151, hb107, hb247]; first | done | rfl) | simp [hb107, hb151, hb197, hb247])] at hy255
           obtain ⟨hp256, hy256⟩ := ix_some hy255
           obtain ⟨cs256, hr256, he256⟩ := hS89.rowAt (k := 2) rfl hy256
           obtain rfl := hr256
           replace he256 : El _ _ 1 _ _ := he256
           have hy257 := hx104
           rw [only_t (by first | rfl | (rw [hb197, hb151, hb107, hb247]; first | done | rfl) | simp [hb107, hb151, hb197, hb247])] at hy257
           obtain ⟨hp258, hy258⟩ := ix_some hy257
           obtain ⟨cs258, hr258, he258⟩ := hS89.rowAt (k := 2) rfl hy258
           obtain rfl := hr258
           replace he258 : El _ _ 1 _ _ := he258
           apply C_draw 41 [[], [], [0, 1], [2], [3], [4], [5], [5], [6, 7, 5], [8, 5], [5], [10, 5], [9, 11, 5], [5, 12], [13], [14], [14], [14], [16, 17, 14], [18, 14], [15, 19, 14], [20, 14], [21, 14], [22, 14], [23, 14], [14, 24], [25], [26], [27, 26], [28, 26], [29], [29], [30, 31, 29], [32, 29], [29], [29], [35, 29], [34, 36, 29], [37, 29], [33, 38, 29], [29, 39, 26]] [.val (ur4_1), .val (.int .i64 i90), .val (elp ur4_1 (i90.toNat * 1)), .val (.int .i64 x94), .val (.bool (decide (x94 < 0))), .val (.bool false), .val (ur4_1), .val (.int .i64 i90), .val (elp ur4_1 (i90.toNat * 1)), .val (.int .i64 x96), .val (v0), .val (.int .i64 (x0.length : Int)), .val (.bool (decide ((x0.length : Int) ≤ x96))), .val (.bool (decide ((x0.length : Int) ≤ x96))), .val (.bool false), .val (v0), .val (ur4_1), .val (.int .i64 i90), .val (elp ur4_1 (i90.toNat * 1)), .val (.int .i64 x98), .val (elp v0 (x98.toNat * 33)), .val (elp v0 ((x98.toNat * 33) + 32)), .val (ue101_0), .val (.int .i64 (x100.locs.length : Int)), .val (.bool (decide (0 < (x100.locs.length : Int)))), .val (.bool (decide (0 < (x100.locs.length : Int)))), .val (.bool false), .val (.int .i64 i90), .val (.bool (decide (0 < i90))), .val (.bool true), .val (ur4_1), .val (.int .i64 i90), .val (elp ur4_1 (i90.toNat * 1)), .val (.int .i64 x102), .val (ur4_1), .val (.int .i64 i90), .val (.int .i64 (wr (i90 - 1))), .val (elp ur4_1 ((wr (i90 - 1)).toNat * 1)), .val (.int .i64 x104), .val (.bool (decide (x102 ≤ x104))), .val (.bool (decide (x102 ≤ x104)))] Ty.mixed rfl rfl (by kernel_rfl) (by kernel_rfl) rfl
           ·
            refine ⟨?_, ?_, ?_, ?_, ?_, ?_, ?_, ?_, ?_, ?_, ?_, ?_, ?_, ?_, ?_, ?_, ?_, ?_, ?_, ?_, ?_, ?_, ?_, ?_, ?_, ?_, ?_, ?_, ?_, ?_, ?_, ?_, ?_, ?_, ?_, ?_, ?_, ?_, ?_, ?_, ?_, trivial⟩
            ·
             intro w259 vq259 hB259 hH259
             have hS259 := hS89.below hB259
             refine W_move rfl rfl ?_
             refine W_nil ?_
             exact N_step rfl rfl (Below.refl _ _)
            ·
             intro w260 vq260 hB260 hH260
             have hS260 := hS89.below hB260
             refine W_move rfl rfl ?_
             refine W_nil ?_
             exact N_step rfl rfl (Below.refl _ _)
            ·
             intro w261 vq261 hB261 hH261
             have hS261 := hS89.below hB261
             refine W_ix rfl Go.Proofs.Try.underlying22 Ty.cells3 Ty.info3 rfl rfl (he248.below hB261) hp248 rfl ?_
             refine W_nil ?_
             exact N_step rfl rfl (Below.refl _ _)
            ·
             intro w262 vq262 hB262 hH262
             have hS262 := hS89.below hB262
             refine W_ld1 0 rfl Ty.cell3 rfl (he248.below hB262) (by omega) rfl ?_
             refine W_nil ?_
             exact N_step rfl rfl (Below.refl _ _)
            ·
             intro w263 vq263 hB263 hH263
             have hS263 := hS89.below hB263
             refine W_lss rfl rfl rfl ?_
             refine W_nil ?_
             exact N_step rfl rfl (Below.refl _ _)
            ·
             intro w264 vq264 hB264 hH264
             have hS264 := hS89.below hB264
             refine W_move rfl rfl ?_
             refine W_nil ?_
             exact N_step rfl (congrArg Value.bool hb107) (Below.refl _ _)
            ·
             intro w265 vq265 hB265 hH265
             have hS265 := hS89.below hB265
             refine W_guard_yes rfl ?_
             refine W_move rfl rfl ?_
             refine W_nil ?_
             exact N_step rfl rfl (Below.refl _ _)
            ·
             intro w266 vq266 hB266 hH266
             have hS266 := hS89.below hB266
             refine W_guard_yes rfl ?_
             refine W_move rfl rfl ?_
             refine W_nil ?_
             exact N_step rfl rfl (Below.refl _ _)
            ·
             intro w267 vq267 hB267 hH267
             have hS267 := hS89.below hB267
             refine W_guard_yes rfl ?_
             refine W_ix rfl Go.Proofs.Try.underlying22 Ty.cells3 Ty.info3 rfl rfl (he250.below hB267) hp250 rfl ?_
             refine W_nil ?_
             exact N_step rfl rfl (Below.refl _ _)
            ·
             intro w268 vq268 hB268 hH268
             have hS268 := hS89.below hB268
             refine W_guard_yes rfl ?_
             refine W_ld1 0 rfl Ty.cell3 rfl (he250.below hB268) (by omega) rfl ?_
             refine W_nil ?_
             exact N_step rfl rfl (Below.refl _ _)
            ·
             intro w269 vq269 hB269 hH269
             have hS269 := hS89.below hB269
             refine W_guard_yes rfl ?_
             refine W_move rfl rfl ?_
             refine W_nil ?_
             exact N_step rfl rfl (Below.refl _ _)
            ·
             intro w270 vq270 hB270 hH270
             have hS270 := hS89.below hB270
             refine W_guard_yes rfl ?_
             refine W_lenv rfl Go.Proofs.Try.underlying47 rfl h0.ln ?_
             refine W_nil ?_
             exact N_step rfl rfl (Below.refl _ _)
            ·
             intro w271 vq271 hB271 hH271
             have hS271 := hS89.below hB271
             refine W_guard_yes rfl ?_
             refine W_geq rfl rfl rfl ?_
             refine W_nil ?_
             exact N_step rfl rfl (Below.refl _ _)
            ·
             intro w272 vq272 hB272 hH272
             have hS272 := hS89.below hB272
             refine W_pick_f rfl rfl rfl ?_
             refine W_nil ?_
             exact N_step rfl rfl (Below.refl _ _)
            ·
             intro w273 vq273 hB273 hH273
             have hS273 := hS89.below hB273
             refine W_move rfl rfl ?_
             refine W_nil ?_
             exact N_step rfl (congrArg Value.bool hb151) (Below.refl _ _)
            ·
             intro w274 vq274 hB274 hH274
             have hS274 := hS89.below hB274
             refine W_guard_yes rfl ?_
             refine W_move rfl rfl ?_
             refine W_nil ?_
             exact N_step rfl rfl (Below.refl _ _)
            ·
             intro w275 vq275 hB275 hH275
             have hS275 := hS89.below hB275
             refine W_guard_yes rfl ?_
             refine W_move rfl rfl ?_
             refine W_nil ?_
             exact N_step rfl rfl (Below.refl _ _)
            ·
             intro w276 vq276 hB276 hH276
             have hS276 := hS89.below hB276
             refine W_guard_yes rfl ?_
             refine W_move rfl rfl ?_
             refine W_nil ?_
             exact N_step rfl rfl (Below.refl _ _)
            ·
             intro w277 vq277 hB277 hH277
             have hS277 := hS89.below hB277
             refine W_guard_yes rfl ?_
             refine W_ix rfl Go.Proofs.Try.underlying22 Ty.cells3 Ty.info3 rfl rfl (he252.below hB277) hp252 rfl ?_
             refine W_nil ?_
             exact N_step rfl rfl (Below.refl _ _)
            ·
             intro w278 vq278 hB278 hH278
             have hS278 := hS89.below hB278
             refine W_guard_yes rfl ?_
             refine W_ld1 0 rfl Ty.cell3 rfl (he252.below hB278) (by omega) rfl ?_
             refine W_nil ?_
             exact N_step rfl rfl (Below.refl _ _)
            ·
             intro w279 vq279 hB279 hH279
             have hS279 := hS89.below hB279
             refine W_guard_yes rfl ?_
             refine W_ix rfl Go.Proofs.Try.underlying47 Ty.cells52 Ty.info52 rfl rfl (he254.el hS279.agree) hp254 rfl ?_
             refine W_nil ?_
             exact N_step rfl rfl (Below.refl _ _)
            ·
             intro w280 vq280 hB280 hH280
             have hS280 := hS89.below hB280
             refine W_guard_yes rfl ?_
             refine W_fld 32 rfl Ty.field52_1 rfl (he254.el hS280.agree) ?_
             refine W_nil ?_
             exact N_step rfl rfl (Below.refl _ _)
            ·
             intro w281 vq281 hB281 hH281
             have hS281 := hS89.below hB281
             refine W_guard_yes rfl ?_
             refine W_ld1 32 rfl Ty.cell49 rfl (he254.el hS281.agree) (by omega) rfl ?_
             refine W_nil ?_
             exact N_step rfl rfl (Below.refl _ _)
            ·
             intro w282 vq282 hB282 hH282
             have hS282 := hS89.below hB282
             refine W_guard_yes rfl ?_
             refine W_lenv rfl Go.Proofs.Try.underlying49 rfl hue101_0.ln ?_
             refine W_nil ?_
             exact N_step rfl rfl (Below.refl _ _)
            ·
             intro w283 vq283 hB283 hH283
             have hS283 := hS89.below hB283
             refine W_guard_yes rfl ?_
             refine W_gtr rfl rfl rfl ?_
             refine W_nil ?_
             exact N_step rfl rfl (Below.refl _ _)
            ·
             intro w284 vq284 hB284 hH284
             have hS284 := hS89.below hB284
             refine W_pick_f rfl rfl rfl ?_
             refine W_nil ?_
             exact N_step rfl rfl (Below.refl _ _)
            ·
             intro w285 vq285 hB285 hH285
             have hS285 := hS89.below hB285
             refine W_move rfl rfl ?_
             refine W_nil ?_
             exact N_step rfl (congrArg Value.bool hb197) (Below.refl _ _)
            ·
             intro w286 vq286 hB286 hH286
             have hS286 := hS89.below hB286
             refine W_guard_yes rfl ?_
             refine W_move rfl rfl ?_
             refine W_nil ?_
             exact N_step rfl rfl (Below.refl _ _)
            ·
             intro w287 vq287 hB287 hH287
             have hS287 := hS89.below hB287
             refine W_guard_yes rfl ?_
             refine W_gtr rfl rfl rfl ?_
             refine W_nil ?_
             exact N_step rfl rfl (Below.refl _ _)
            ·
             intro w288 vq288 hB288 hH288
             have hS288 := hS89.below hB288
             refine W_guard_yes rfl ?_
             refine W_move rfl rfl ?_
             refine W_nil ?_
             exact N_step rfl (congrArg Value.bool hb247) (Below.refl _ _)
            ·
             intro w289 vq289 hB289 hH289
             have hS289 := hS89.below hB289
             refine W_guard_yes rfl ?_
             refine W_move rfl rfl ?_
             refine W_nil ?_
             exact N_step rfl rfl (Below.refl _ _)
            ·
             intro w290 vq290 hB290 hH290
             have hS290 := hS89.below hB290
             refine W_guard_yes rfl ?_
             refine W_move rfl rfl ?_
             refine W_nil ?_
             exact N_step rfl rfl (Below.refl _ _)
            ·
             intro w291 vq291 hB291 hH291
             have hS291 := hS89.below hB291
             refine W_guard_yes rfl ?_
             refine W_ix rfl Go.Proofs.Try.underlying22 Ty.cells3 Ty.info3 rfl rfl (he256.below hB291) hp256 rfl ?_
             refine W_nil ?_
             exact N_step rfl rfl (Below.refl _ _)
            ·
             intro w292 vq292 hB292 hH292
             have hS292 := hS89.below hB292
             refine W_guard_yes rfl ?_
             refine W_ld1 0 rfl Ty.cell3 rfl (he256.below hB292) (by omega) rfl ?_
             refine W_nil ?_
             exact N_step rfl rfl (Below.refl _ _)
            ·
             intro w293 vq293 hB293 hH293
             have hS293 := hS89.below hB293
             refine W_guard_yes rfl ?_
             refine W_move rfl rfl ?_
             refine W_nil ?_
             exact N_step rfl rfl (Below.refl _ _)
            ·
             intro w294 vq294 hB294 hH294
             have hS294 := hS89.below hB294
             refine W_guard_yes rfl ?_
             refine W_move rfl rfl ?_
             refine W_nil ?_
             exact N_step rfl rfl (Below.refl _ _)
            ·
             intro w295 vq295 hB295 hH295
             have hS295 := hS89.below hB295
             refine W_guard_yes rfl ?_
             refine W_subi rfl rfl rfl rfl ?_
             refine W_nil ?_
             exact N_step rfl rfl (Below.refl _ _)
            ·
             intro w296 vq296 hB296 hH296
             have hS296 := hS89.below hB296
             refine W_guard_yes rfl ?_
             refine W_ix rfl Go.Proofs.Try.underlying22 Ty.cells3 Ty.info3 rfl rfl (he258.below hB296) hp258 rfl ?_
             refine W_nil ?_
             exact N_step rfl rfl (Below.refl _ _)
            ·
             intro w297 vq297 hB297 hH297
             have hS297 := hS89.below hB297
             refine W_guard_yes rfl ?_
             refine W_ld1 0 rfl Ty.cell3 rfl (he258.below hB297) (by omega) rfl ?_
             refine W_nil ?_
             exact N_step rfl rfl (Below.refl _ _)
            ·
             intro w298 vq298 hB298 hH298
             have hS298 := hS89.below hB298
             refine W_guard_yes rfl ?_
             refine W_leq rfl rfl rfl ?_
             refine W_nil ?_
             exact N_step rfl rfl (Below.refl _ _)
            ·
             intro w299 vq299 hB299 hH299
             have hS299 := hS89.below hB299
             refine W_guard_yes rfl ?_
             refine W_pick_t rfl rfl rfl ?_
             refine W_nil ?_
             exact N_step rfl rfl (Below.refl _ _)
           intro w300 vq300 hB300 hH300
           have hS300 := hS89.below hB300
           refine W_pick_f rfl rfl rfl ?_
           refine W_nil ?_
           exact N_join _ ⟨rfl, F89, (Frz.le.refl _), hS300⟩ ⟨rfl, rfl, rfl, rfl, rfl, (look_bool rfl (by first | rfl | (rw [hb197, hb151, hb107, hb247]; first | done | rfl) | simp [hb107, hb151, hb197, hb247])), trivial⟩
          ·
           obtain ⟨hp301, hy301⟩ := ix_some hx94
           obtain ⟨cs301, hr301, he301⟩ := hS89.rowAt (k := 2) rfl hy301
           obtain rfl := hr301
           replace he301 : El _ _ 1 _ _ := he301
           have hy302 := hx96
           rw [only_t (by first | rfl | (rw [hb107]; first | done | rfl) | simp [hb107, hb151, hb197, hb247])] at hy302
           obtain ⟨hp303, hy303⟩ := ix_some hy302
           obtain ⟨cs303, hr303, he303⟩ := hS89.rowAt (k := 2) rfl hy303
           obtain rfl := hr303
           replace he303 : El _ _ 1 _ _ := he303
           have hy304 := hx98
           rw [only_t (by first | rfl | (rw [hb151, hb107]; first | done | rfl) | simp [hb107, hb151, hb197, hb247])] at hy304
           obtain ⟨hp305, hy305⟩ := ix_some hy304
           obtain ⟨cs305, hr305, he305⟩ := hS89.rowAt (k := 2) rfl hy305
           obtain rfl := hr305
           replace he305 : El _ _ 1 _ _ := he305
           have hy306 := hx100
           rw [only_t (by first | rfl | (rw [hb151, hb107]; first | done | rfl) | simp [hb107, hb151, hb197, hb247])] at hy306
           obtain ⟨hp307, hy307⟩ := ix_some hy306
           obtain ⟨cs307, hr307, he307⟩ := (h0.mono ((ler4.trans le8).trans le89)).at_ hy307
           obtain ⟨ue101_0, rfl, hle101_0, hue101_0⟩ := hr307
           replace he307 : Elf _ _ 33 _ _ := he307
           apply C_draw 41 [[], [], [0, 1], [2], [3], [4], [5], [5], [6, 7, 5], [8, 5], [5], [10, 5], [9, 11, 5], [5, 12], [13], [14], [14], [14], [16, 17, 14], [18, 14], [15, 19, 14], [20, 14], [21, 14], [22, 14], [23, 14], [14, 24], [25], [26], [27, 26], [28, 26], [29], [29], [30, 31, 29], [32, 29], [29], [29], [35, 29], [34, 36, 29], [37, 29], [33, 38, 29], [29, 39, 26]] [.val (ur4_1), .val (.int .i64 i90), .val (elp ur4_1 (i90.toNat * 1)), .val (.int .i64 x94), .val (.bool (decide (x94 < 0))), .val (.bool false), .val (ur4_1), .val (.int .i64 i90), .val (elp ur4_1 (i90.toNat * 1)), .val (.int .i64 x96), .val (v0), .val (.int .i64 (x0.length : Int)), .val (.bool (decide ((x0.length : Int) ≤ x96))), .val (.bool (decide ((x0.length : Int) ≤ x96))), .val (.bool false), .val (v0), .val (ur4_1), .val (.int .i64 i90), .val (elp ur4_1 (i90.toNat * 1)), .val (.int .i64 x98), .val (elp v0 (x98.toNat * 33)), .val (elp v0 ((x98.toNat * 33) + 32)), .val (ue101_0), .val (.int .i64 (x100.locs.length : Int)), .val (.bool (decide (0 < (x100.locs.length : Int)))), .val (.bool (decide (0 < (x100.locs.length : Int)))), .val (.bool false), .val (.int .i64 i90), .val (.bool (decide (0 < i90))), .val (.bool false), .val undef, .val undef, .val undef, .val undef, .val undef, .val undef, .val undef, .val undef, .val undef, .val undef, .val (.bool false)] Ty.mixed rfl rfl (by kernel_rfl) (by kernel_rfl) rfl
           ·
            refine ⟨?_, ?_, ?_, ?_, ?_, ?_, ?_, ?_, ?_, ?_, ?_, ?_, ?_, ?_, ?_, ?_, ?_, ?_, ?_, ?_, ?_, ?_, ?_, ?_, ?_, ?_, ?_, ?_, ?_, ?_, ?_, ?_, ?_, ?_, ?_, ?_, ?_, ?_, ?_, ?_, ?_, trivial⟩
            ·
             intro w308 vq308 hB308 hH308
             have hS308 := hS89.below hB308
             refine W_move rfl rfl ?_
             refine W_nil ?_
             exact N_step rfl rfl (Below.refl _ _)
            ·
             intro w309 vq309 hB309 hH309
             have hS309 := hS89.below hB309
             refine W_move rfl rfl ?_
             refine W_nil ?_
             exact N_step rfl rfl (Below.refl _ _)
            ·
             intro w310 vq310 hB310 hH310
             have hS310 := hS89.below hB310
             refine W_ix rfl Go.Proofs.Try.underlying22 Ty.cells3 Ty.info3 rfl rfl (he301.below hB310) hp301 rfl ?_
             refine W_nil ?_
             exact N_step rfl rfl (Below.refl _ _)
            ·
             intro w311 vq311 hB311 hH311
             have hS311 := hS89.below hB311
             refine W_ld1 0 rfl Ty.cell3 rfl (he301.below hB311) (by omega) rfl ?_
             refine W_nil ?_
             exact N_step rfl rfl (Below.refl _ _)
            ·
             intro w312 vq312 hB312 hH312
             have hS312 := hS89.below hB312
             refine W_lss rfl rfl rfl ?_
             refine W_nil ?_
             exact N_step rfl rfl (Below.refl _ _)
            ·
             intro w313 vq313 hB313 hH313
             have hS313 := hS89.below hB313
             refine W_move rfl rfl ?_
             refine W_nil ?_
             exact N_step rfl (congrArg Value.bool hb107) (Below.refl _ _)
            ·
             intro w314 vq314 hB314 hH314
             have hS314 := hS89.below hB314
             refine W_guard_yes rfl ?_
             refine W_move rfl rfl ?_
             refine W_nil ?_
             exact N_step rfl rfl (Below.refl _ _)
            ·
             intro w315 vq315 hB315 hH315
             have hS315 := hS89.below hB315
             refine W_guard_yes rfl ?_
             refine W_move rfl rfl ?_
             refine W_nil ?_
             exact N_step rfl rfl (Below.refl _ _)
            ·
             intro w316 vq316 hB316 hH316
             have hS316 := hS89.below hB316
             refine W_guard_yes rfl ?_
             refine W_ix rfl Go.Proofs.Try.underlying22 Ty.cells3 Ty.info3 rfl rfl (he303.below hB316) hp303 rfl ?_
             refine W_nil ?_
             exact N_step rfl rfl (Below.refl _ _)
            ·
             intro w317 vq317 hB317 hH317
             have hS317 := hS89.below hB317
             refine W_guard_yes rfl ?_
             refine W_ld1 0 rfl Ty.cell3 rfl (he303.below hB317) (by omega) rfl ?_
             refine W_nil ?_
             exact N_step rfl rfl (Below.refl _ _)
            ·
             intro w318 vq318 hB318 hH318
             have hS318 := hS89.below hB318
             refine W_guard_yes rfl ?_
             refine W_move rfl rfl ?_
             refine W_nil ?_
             exact N_step rfl rfl (Below.refl _ _)
            ·
             intro w319 vq319 hB319 hH319
             have hS319 := hS89.below hB319
             refine W_guard_yes rfl ?_
             refine W_lenv rfl Go.Proofs.Try.underlying47 rfl h0.ln ?_
             refine W_nil ?_
             exact N_step rfl rfl (Below.refl _ _)
            ·
             intro w320 vq320 hB320 hH320
             have hS320 := hS89.below hB320
             refine W_guard_yes rfl ?_
             refine W_geq rfl rfl rfl ?_
             refine W_nil ?_
             exact N_step rfl rfl (Below.refl _ _)
            ·
             intro w321 vq321 hB321 hH321
             have hS321 := hS89.below hB321
             refine W_pick_f rfl rfl rfl ?_
             refine W_nil ?_
             exact N_step rfl rfl (Below.refl _ _)
            ·
             intro w322 vq322 hB322 hH322
             have hS322 := hS89.below hB322
             refine W_move rfl rfl ?_
             refine W_nil ?_
             exact N_step rfl (congrArg Value.bool hb151) (Below.refl _ _)
            ·
             intro w323 vq323 hB323 hH323
             have hS323 := hS89.below hB323
             refine W_guard_yes rfl ?_
             refine W_move rfl rfl ?_
             refine W_nil ?_
             exact N_step rfl rfl (Below.refl _ _)
            ·
             intro w324 vq324 hB324 hH324
             have hS324 := hS89.below hB324
             refine W_guard_yes rfl ?_
             refine W_move rfl rfl ?_
             refine W_nil ?_
             exact N_step rfl rfl (Below.refl _ _)
            ·
             intro w325 vq325 hB325 hH325
             have hS325 := hS89.below hB325
             refine W_guard_yes rfl ?_
             refine W_move rfl rfl ?_
             refine W_nil ?_
             exact N_step rfl rfl (Below.refl _ _)
            ·
             intro w326 vq326 hB326 hH326
             have hS326 := hS89.below hB326
             refine W_guard_yes rfl ?_
             refine W_ix rfl Go.Proofs.Try.underlying22 Ty.cells3 Ty.info3 rfl rfl (he305.below hB326) hp305 rfl ?_
             refine W_nil ?_
             exact N_step rfl rfl (Below.refl _ _)
            ·
             intro w327 vq327 hB327 hH327
             have hS327 := hS89.below hB327
             refine W_guard_yes rfl ?_
             refine W_ld1 0 rfl Ty.cell3 rfl (he305.below hB327) (by omega) rfl ?_
             refine W_nil ?_
             exact N_step rfl rfl (Below.refl _ _)
            ·
             intro w328 vq328 hB328 hH328
             have hS328 := hS89.below hB328
             refine W_guard_yes rfl ?_
             refine W_ix rfl Go.Proofs.Try.underlying47 Ty.cells52 Ty.info52 rfl rfl (he307.el hS328.agree) hp307 rfl ?_
             refine W_nil ?_
             exact N_step rfl rfl (Below.refl _ _)
            ·
             intro w329 vq329 hB329 hH329
             have hS329 := hS89.below hB329
             refine W_guard_yes rfl ?_
             refine W_fld 32 rfl Ty.field52_1 rfl (he307.el hS329.agree) ?_
             refine W_nil ?_
             exact N_step rfl rfl (Below.refl _ _)
            ·
             intro w330 vq330 hB330 hH330
             have hS330 := hS89.below hB330
             refine W_guard_yes rfl ?_
             refine W_ld1 32 rfl Ty.cell49 rfl (he307.el hS330.agree) (by omega) rfl ?_
             refine W_nil ?_
             exact N_step rfl rfl (Below.refl _ _)
            ·
             intro w331 vq331 hB331 hH331
             have hS331 := hS89.below hB331
             refine W_guard_yes rfl ?_
             refine W_lenv rfl Go.Proofs.Try.underlying49 rfl hue101_0.ln ?_
             refine W_nil ?_
             exact N_step rfl rfl (Below.refl _ _)
            ·
             intro w332 vq332 hB332 hH332
             have hS332 := hS89.below hB332
             refine W_guard_yes rfl ?_
             refine W_gtr rfl rfl rfl ?_
             refine W_nil ?_
             exact N_step rfl rfl (Below.refl _ _)
            ·
             intro w333 vq333 hB333 hH333
             have hS333 := hS89.below hB333
             refine W_pick_f rfl rfl rfl ?_
             refine W_nil ?_
             exact N_step rfl rfl (Below.refl _ _)
            ·
             intro w334 vq334 hB334 hH334
             have hS334 := hS89.below hB334
             refine W_move rfl rfl ?_
             refine W_nil ?_
             exact N_step rfl (congrArg Value.bool hb197) (Below.refl _ _)
            ·
             intro w335 vq335 hB335 hH335
             have hS335 := hS89.below hB335
             refine W_guard_yes rfl ?_
             refine W_move rfl rfl ?_
             refine W_nil ?_
             exact N_step rfl rfl (Below.refl _ _)
            ·
             intro w336 vq336 hB336 hH336
             have hS336 := hS89.below hB336
             refine W_guard_yes rfl ?_
             refine W_gtr rfl rfl rfl ?_
             refine W_nil ?_
             exact N_step rfl rfl (Below.refl _ _)
            ·
             intro w337 vq337 hB337 hH337
             have hS337 := hS89.below hB337
             refine W_guard_yes rfl ?_
             refine W_move rfl rfl ?_
             refine W_nil ?_
             exact N_step rfl (congrArg Value.bool hb247) (Below.refl _ _)
            ·
             intro w338 vq338 hB338 hH338
             have hS338 := hS89.below hB338
             refine W_guard_no rfl rfl rfl rfl rfl ?_
             refine W_nil ?_
             exact N_step rfl rfl (Below.refl _ _)
            ·
             intro w339 vq339 hB339 hH339
             have hS339 := hS89.below hB339
             refine W_guard_no rfl rfl rfl rfl rfl ?_
             refine W_nil ?_
             exact N_step rfl rfl (Below.refl _ _)
            ·
             intro w340 vq340 hB340 hH340
             have hS340 := hS89.below hB340
             refine W_guard_no rfl rfl rfl rfl rfl ?_
             refine W_nil ?_
             exact N_step rfl rfl (Below.refl _ _)
            ·
             intro w341 vq341 hB341 hH341
             have hS341 := hS89.below hB341
             refine W_guard_no rfl rfl rfl rfl rfl ?_
             refine W_nil ?_
             exact N_step rfl rfl (Below.refl _ _)
            ·
             intro w342 vq342 hB342 hH342
             have hS342 := hS89.below hB342
             refine W_guard_no rfl rfl rfl rfl rfl ?_
             refine W_nil ?_
             exact N_step rfl rfl (Below.refl _ _)
            ·
             intro w343 vq343 hB343 hH343
             have hS343 := hS89.below hB343
             refine W_guard_no rfl rfl rfl rfl rfl ?_
             refine W_nil ?_
             exact N_step rfl rfl (Below.refl _ _)
            ·
             intro w344 vq344 hB344 hH344
             have hS344 := hS89.below hB344
             refine W_guard_no rfl rfl rfl rfl rfl ?_
             refine W_nil ?_
             exact N_step rfl rfl (Below.refl _ _)
            ·
             intro w345 vq345 hB345 hH345
             have hS345 := hS89.below hB345
             refine W_guard_no rfl rfl rfl rfl rfl ?_
             refine W_nil ?_
             exact N_step rfl rfl (Below.refl _ _)
            ·
             intro w346 vq346 hB346 hH346
             have hS346 := hS89.below hB346
             refine W_guard_no rfl rfl rfl rfl rfl ?_
             refine W_nil ?_
             exact N_step rfl rfl (Below.refl _ _)
            ·
             intro w347 vq347 hB347 hH347
             have hS347 := hS89.below hB347
             refine W_guard_no rfl rfl rfl rfl rfl ?_
             refine W_nil ?_
             exact N_step rfl rfl (Below.refl _ _)
            ·
             intro w348 vq348 hB348 hH348
             have hS348 := hS89.below hB348
             refine W_guard_yes rfl ?_
             refine W_pick_f rfl rfl rfl ?_
             refine W_nil ?_
             exact N_step rfl rfl (Below.refl _ _)
           intro w349 vq349 hB349 hH349
           have hS349 := hS89.below hB349
           refine W_pick_f rfl rfl rfl ?_
           refine W_nil ?_
           exact N_join _ ⟨rfl, F89, (Frz.le.refl _), hS349⟩ ⟨rfl, rfl, rfl, rfl, rfl, (look_bool rfl (by first | rfl | (rw [hb197, hb151, hb107, hb247]; first | done | rfl) | simp [hb107, hb151, hb197, hb247])), trivial⟩
      rintro E w106 ⟨rfl, F106, le106, hS106⟩
      refine N_code ?_
      refine C_cond rfl (fun hc350 => ?_) (fun hc350 => ?_)
      ·
       rw [if_t hc350] at H
       refine C_seq ?_
       refine C_region ?_
       refine W_assign rfl rfl ?_
       refine W_nil ?_
       refine N_code ?_
       obtain rfl := Option.some.inj H
       refine C_ret rfl rfl ?_
       exact ⟨F106, rfl, hS106.pick [] (by decide)⟩
      ·
       rw [if_f hc350] at H
       refine C_skip ?_
       refine N_code ?_
       obtain ⟨x351, hx351, H⟩ := bd_some H
       obtain ⟨x353, hx353, H⟩ := bd_some H
       refine C_region ?_
       refine W_move rfl rfl ?_
       refine W_move rfl rfl ?_
       refine W_move rfl rfl ?_
       obtain ⟨hp355, hy355⟩ := ix_some hx351
       obtain ⟨cs355, hr355, he355⟩ := hS106.rowAt (k := 2) rfl hy355
       obtain rfl := hr355
       replace he355 : El _ _ 1 _ _ := he355
       refine W_ix rfl Go.Proofs.Try.underlying22 Ty.cells3 Ty.info3 rfl rfl he355 hp355 rfl ?_
       refine W_ld1 0 rfl Ty.cell3 rfl he355 (by omega) rfl ?_
       obtain ⟨hp356, hy356⟩ := ix_some hx353
       obtain ⟨cs356, hr356, he356⟩ := hS106.rowAt (k := 0) rfl hy356
       obtain rfl := hr356
       replace he356 : El _ _ 1 _ _ := he356
       refine W_ix rfl Go.Proofs.Try.underlying22 Ty.cells3 Ty.info3 rfl rfl he356 hp356 rfl ?_
       refine W_ld1 0 rfl Ty.cell3 rfl he356 (by omega) rfl ?_
       refine W_add rfl rfl rfl rfl ?_
       refine W_ix rfl Go.Proofs.Try.underlying22 Ty.cells3 Ty.info3 rfl rfl he356 hp356 rfl ?_
       refine W_put (c := [.int .i64 (wr (x353 + 1))]) 0 (x351.toNat) 0 x353 (wr (x353 + 1)) rfl rfl hS106 rfl (ix_some hx353).2 (by first | rfl | (show _ = _ * 1 + _; omega)) rfl Ty.size3 (by intro y hy; simp at hy; subst hy; rfl) (by first | decide | exact Nat.le_of_ble_eq_true rfl) (by rintro cs rfl; rfl) ?_
       intro w357 hS357
       refine W_nil ?_
       refine N_block ?_
       refine N_code ?_
       refine C_region ?_
       refine W_move rfl rfl ?_
       refine W_add rfl rfl rfl rfl ?_
       refine W_assign rfl rfl ?_
       refine W_nil ?_
       exact N_againM (wr (i90 + 1), (l91.set x351.toNat (wr (x353 + 1)))) _ H ⟨F106, rfl, (le89.trans le106), hS357⟩ ⟨rfl, rfl, rfl, rfl, rfl, trivial⟩
     ·
      rw [if_f hc93] at H
      refine C_exit _ rfl ?_
      exact N_join _ ⟨l91, H, ⟨F89, rfl, le89, hS89.pick [0, 1] (by decide)⟩⟩ ⟨rfl, rfl, trivial⟩
   ·
    rintro E w10 ⟨l11, H, F10, rfl, le10, hS10⟩
    dsimp only [cellarerlaw21_PlanRises.k2] at H
    refine C_seq_join (fun E wq => cellarerlaw21_PlanRises.k3 r4 = some r ∧ ∃ (F12 : Frz), E = [(3, ur4_0)] ∧ F10.le F12 ∧ St [] w F F12 [.row Read.t 39 ur4_0 r4.1] wq) ?_ ?_
    ·
     refine C_seq ?_
     refine C_region ?_
     refine W_assign rfl rfl ?_
     refine W_nil ?_
     refine N_code ?_
     refine C_block ?_
     refine C_loopM (fun (s : Int) E wq => ∃ (F81 : Frz), E = [(3, ur4_0), (5, v7), (11, .int .i64 s)] ∧ F10.le F81 ∧ St [] w F F81 [.row tI 3 v7 l11, .row Read.t 39 ur4_0 r4.1] wq) H ?_ ?_
     ·
      exact ⟨_, ⟨F10, rfl, (Frz.le.refl _), hS10⟩, ⟨rfl, rfl, rfl, trivial⟩⟩
     ·
      rintro rec83 i82 E w81 hI H
      try dsimp only at hI
      obtain ⟨F81, rfl, le81, hS81⟩ := hI
      dsimp only [cellarerlaw21_PlanRises.l9] at H
      refine C_seq ?_
      refine C_seq ?_
      refine C_region ?_
      refine W_move rfl rfl ?_
      refine W_move rfl rfl ?_
      refine W_lenv rfl Go.Proofs.Try.underlying22 rfl (hS81.rowLn (k := 0) rfl) ?_
      refine W_lss rfl rfl rfl ?_
      refine W_nil ?_
      refine N_code ?_
      refine C_cond rfl (fun hc84 => ?_) (fun hc84 => ?_)
      ·
       rw [if_t hc84] at H
       refine C_skip ?_
       refine N_code ?_
       refine C_seq ?_
       refine C_block ?_
       refine C_seq ?_
       obtain ⟨x85, hx85, H⟩ := bd_some H
       refine C_region ?_
       refine W_move rfl rfl ?_
       refine W_move rfl rfl ?_
       obtain ⟨hp87, hy87⟩ := ix_some hx85
       obtain ⟨cs87, hr87, he87⟩ := hS81.rowAt (k := 0) rfl hy87
       obtain rfl := hr87
       replace he87 : El _ _ 1 _ _ := he87
       refine W_ix rfl Go.Proofs.Try.underlying22 Ty.cells3 Ty.info3 rfl rfl he87 hp87 rfl ?_
       refine W_ld1 0 rfl Ty.cell3 rfl he87 (by omega) rfl ?_
       refine W_neq rfl rfl rfl ?_
       refine W_nil ?_
       refine N_code ?_
       refine C_cond rfl (fun hc88 => ?_) (fun hc88 => ?_)
       ·
        rw [if_t hc88] at H
        refine C_seq ?_
        refine C_region ?_
        refine W_assign rfl rfl ?_
        refine W_nil ?_
        refine N_code ?_
        obtain rfl := Option.some.inj H
        refine C_ret rfl rfl ?_
        exact ⟨F81, rfl, hS81.pick [] (by decide)⟩
       ·
        rw [if_f hc88] at H
        refine C_skip ?_
        refine N_block ?_
        refine N_code ?_
        refine C_region ?_
        refine W_move rfl rfl ?_
        refine W_add rfl rfl rfl rfl ?_
        refine W_assign rfl rfl ?_
        refine W_nil ?_
        exact N_againM (wr (i82 + 1)) _ H ⟨F81, rfl, le81, hS81⟩ ⟨rfl, rfl, rfl, trivial⟩
      ·
       rw [if_f hc84] at H
       refine C_exit _ rfl ?_
       exact N_join _ ⟨H, ⟨F81, rfl, le81, hS81.pick [1] (by decide)⟩⟩ ⟨rfl, trivial⟩
    ·
     rintro E w12 ⟨H, F12, rfl, le12, hS12⟩
     dsimp only [cellarerlaw21_PlanRises.k3] at H
     refine C_seq ?_
     obtain ⟨r13, hr13, H⟩ := bd_some H
     refine C_region ?_
     refine W_move rfl rfl ?_
     obtain ⟨F14, le14, hf14, hS14⟩ := hS12.freeze 0 [] rfl (by decide) (by decide)
     refine W_call rfl Ty.named32 rfl (plan_Vols_ok hS14.agree hf14 hr13) ?_
     rintro ur13_0 w15 ⟨Fr13, _, rfl, hT15⟩
     have hS15 := hS14.call hT15
     have ler13 := hT15.ext
     refine W_assign rfl rfl ?_
     refine W_nil ?_
     refine N_code ?_
     refine C_seq ?_
     refine C_region ?_
     refine W_assign rfl rfl ?_
     refine W_nil ?_
     refine N_code ?_
     refine C_seq_join (fun E wq => ∃ i17 : Int, cellarerlaw21_PlanRises.k4 r4 i17 = some r ∧ ∃ (F16 : Frz), E = [(3, ur4_0), (13, .int .i64 i17)] ∧ Fr13.le F16 ∧ St [] w F F16 [] wq) ?_ ?_
     ·
      refine C_seq ?_
      refine C_region ?_
      refine W_assign rfl rfl ?_
      refine W_nil ?_
      refine N_code ?_
      refine C_block ?_
      refine C_loopM (fun (s : Int × Int) E wq => ∃ (F23 : Frz), E = [(3, ur4_0), (12, ur13_0), (13, .int .i64 s.1), (14, .int .i64 s.2)] ∧ Fr13.le F23 ∧ St [] w F F23 [.row tI 3 ur13_0 r13] wq) H ?_ ?_
      ·
       exact ⟨_, ⟨Fr13, rfl, (Frz.le.refl _), hS15⟩, ⟨rfl, rfl, rfl, rfl, trivial⟩⟩
      ·
       rintro rec26 ⟨i24, i25⟩ E w23 hI H
       try dsimp only at hI
       obtain ⟨F23, rfl, le23, hS23⟩ := hI
       dsimp only [cellarerlaw21_PlanRises.l5] at H
       refine C_seq ?_
       refine C_seq ?_
       refine C_region ?_
       refine W_move rfl rfl ?_
       refine W_move rfl rfl ?_
       refine W_lenv rfl Go.Proofs.Try.underlying22 rfl (hS23.rowLn (k := 0) rfl) ?_
       refine W_lss rfl rfl rfl ?_
       refine W_nil ?_
       refine N_code ?_
       refine C_cond rfl (fun hc27 => ?_) (fun hc27 => ?_)
       ·
        rw [if_t hc27] at H
        refine C_skip ?_
        refine N_code ?_
        refine C_seq_join (fun E wq => ∃ i29 : Int, cellarerlaw21_PlanRises.k6 i25 rec26 i29 = some r ∧ ∃ (F28 : Frz), E = [(3, ur4_0), (12, ur13_0), (13, .int .i64 i29), (14, .int .i64 i25)] ∧ F23.le F28 ∧ St [] w F F28 [.row tI 3 ur13_0 r13] wq) ?_ ?_
        ·
         refine C_block ?_
         refine C_seq ?_
         refine C_region ?_
         refine W_move rfl rfl ?_
         refine W_assign rfl rfl ?_
         refine W_nil ?_
         refine N_code ?_
         refine C_seq_join (fun E wq => ∃ i31 : Int, cellarerlaw21_PlanRises.k7 i24 i25 rec26 i31 = some r ∧ ∃ (F30 : Frz), E = [(3, ur4_0), (12, ur13_0), (13, .int .i64 i31), (14, .int .i64 i25), (15, .int .i64 i24)] ∧ F23.le F30 ∧ St [] w F F30 [.row tI 3 ur13_0 r13] wq) ?_ ?_
         ·
          refine C_block ?_
          refine C_loopM (fun (s : Int) E wq => ∃ (F33 : Frz), E = [(3, ur4_0), (12, ur13_0), (13, .int .i64 s), (14, .int .i64 i25), (15, .int .i64 i24)] ∧ F23.le F33 ∧ St [] w F F33 [.row tI 3 ur13_0 r13] wq) H ?_ ?_
          ·
           exact ⟨_, ⟨F23, rfl, (Frz.le.refl _), hS23⟩, ⟨rfl, rfl, rfl, rfl, rfl, trivial⟩⟩
          ·
           rintro rec35 i34 E w33 hI H
           try dsimp only at hI
           obtain ⟨F33, rfl, le33, hS33⟩ := hI
           dsimp only [cellarerlaw21_PlanRises.l8] at H
           refine C_seq ?_
           refine C_seq ?_
           obtain ⟨x36, hx36, H⟩ := bd_some H
           obtain ⟨x38, hx38, H⟩ := bd_some H
           refine C_join (fun E wq => E = [(3, ur4_0), (12, ur13_0), (13, .int .i64 i34), (14, .int .i64 i25), (15, .int .i64 i24), (205, .bool (decide (i34 < (r4.1.length : Int)) && decide (x36.loc.vol = x38)))] ∧ ∃ F40 : Frz, F33.le F40 ∧ St [] w F F40 [.row tI 3 ur13_0 r13] wq) ?_ ?_
           ·
            rcases Bool.eq_false_or_eq_true (decide (i34 < (r4.1.length : Int))) with hb41 | hb41
            ·
             have hy42 := hx36
             rw [only_t hb41] at hy42
             obtain ⟨hp43, hy43⟩ := ix_some hy42
             obtain ⟨cs43, hr43, he43⟩ := (hf14.mono ((ler13.trans le23).trans le33)).at_ hy43
             obtain rfl := hr43
             replace he43 : Elf _ _ 5 _ _ := he43
             have hy44 := hx38
             rw [only_t hb41] at hy44
             obtain ⟨hp45, hy45⟩ := ix_some hy44
             obtain ⟨cs45, hr45, he45⟩ := hS33.rowAt (k := 0) rfl hy45
             obtain rfl := hr45
             replace he45 : El _ _ 1 _ _ := he45
             apply C_draw 16 [[], [], [1], [0, 2], [3], [4], [4], [5, 6, 4], [7, 4], [8, 4], [9, 4], [4], [4], [11, 12, 4], [13, 4], [10, 14, 4]] [.val (.int .i64 i34), .val (ur4_0), .val (.int .i64 (r4.1.length : Int)), .val (.bool (decide (i34 < (r4.1.length : Int)))), .val (.bool true), .val (ur4_0), .val (.int .i64 i34), .val (elp ur4_0 (i34.toNat * 5)), .val (elp ur4_0 ((i34.toNat * 5) + 1)), .val (elp ur4_0 (((i34.toNat * 5) + 1) + 0)), .val (.int .i64 x36.loc.vol), .val (ur13_0), .val (.int .i64 i25), .val (elp ur13_0 (i25.toNat * 1)), .val (.int .i64 x38), .val (.bool (decide (x36.loc.vol = x38)))] Ty.mixed rfl rfl (by kernel_rfl) (by kernel_rfl) rfl
             ·
              refine ⟨?_, ?_, ?_, ?_, ?_, ?_, ?_, ?_, ?_, ?_, ?_, ?_, ?_, ?_, ?_, ?_, trivial⟩
              ·
               intro w46 vq46 hB46 hH46
               have hS46 := hS33.below hB46
               refine W_move rfl rfl ?_
               refine W_nil ?_
               exact N_step rfl rfl (Below.refl _ _)
              ·
               intro w47 vq47 hB47 hH47
               have hS47 := hS33.below hB47
               refine W_move rfl rfl ?_
               refine W_nil ?_
               exact N_step rfl rfl (Below.refl _ _)
              ·
               intro w48 vq48 hB48 hH48
               have hS48 := hS33.below hB48
               refine W_lenv rfl Go.Proofs.Try.underlying23 rfl hf14.ln ?_
               refine W_nil ?_
               exact N_step rfl rfl (Below.refl _ _)
              ·
               intro w49 vq49 hB49 hH49
               have hS49 := hS33.below hB49
               refine W_lss rfl rfl rfl ?_
               refine W_nil ?_
               exact N_step rfl rfl (Below.refl _ _)
              ·
               intro w50 vq50 hB50 hH50
               have hS50 := hS33.below hB50
               refine W_move rfl rfl ?_
               refine W_nil ?_
               exact N_step rfl (congrArg Value.bool hb41) (Below.refl _ _)
              ·
               intro w51 vq51 hB51 hH51
               have hS51 := hS33.below hB51
               refine W_guard_yes rfl ?_
               refine W_move rfl rfl ?_
               refine W_nil ?_
               exact N_step rfl rfl (Below.refl _ _)
              ·
               intro w52 vq52 hB52 hH52
               have hS52 := hS33.below hB52
               refine W_guard_yes rfl ?_
               refine W_move rfl rfl ?_
               refine W_nil ?_
               exact N_step rfl rfl (Below.refl _ _)
              ·
               intro w53 vq53 hB53 hH53
               have hS53 := hS33.below hB53
               refine W_guard_yes rfl ?_
               refine W_ix rfl Go.Proofs.Try.underlying23 Ty.cells39 Ty.info39 rfl rfl (he43.el hS53.agree) hp43 rfl ?_
               refine W_nil ?_
               exact N_step rfl rfl (Below.refl _ _)
              ·
               intro w54 vq54 hB54 hH54
               have hS54 := hS33.below hB54
               refine W_guard_yes rfl ?_
               refine W_fld 1 rfl Ty.field39_1 rfl (he43.el hS54.agree) ?_
               refine W_nil ?_
               exact N_step rfl rfl (Below.refl _ _)
              ·
               intro w55 vq55 hB55 hH55
               have hS55 := hS33.below hB55
               refine W_guard_yes rfl ?_
               refine W_fld 0 rfl Ty.field37_0 rfl (he43.el hS55.agree) ?_
               refine W_nil ?_
               exact N_step rfl rfl (Below.refl _ _)
              ·
               intro w56 vq56 hB56 hH56
               have hS56 := hS33.below hB56
               refine W_guard_yes rfl ?_
               refine W_ld1 1 rfl Ty.cell3 rfl (he43.el hS56.agree) (by omega) rfl ?_
               refine W_nil ?_
               exact N_step rfl rfl (Below.refl _ _)
              ·
               intro w57 vq57 hB57 hH57
               have hS57 := hS33.below hB57
               refine W_guard_yes rfl ?_
               refine W_move rfl rfl ?_
               refine W_nil ?_
               exact N_step rfl rfl (Below.refl _ _)
              ·
               intro w58 vq58 hB58 hH58
               have hS58 := hS33.below hB58
               refine W_guard_yes rfl ?_
               refine W_move rfl rfl ?_
               refine W_nil ?_
               exact N_step rfl rfl (Below.refl _ _)
              ·
               intro w59 vq59 hB59 hH59
               have hS59 := hS33.below hB59
               refine W_guard_yes rfl ?_
               refine W_ix rfl Go.Proofs.Try.underlying22 Ty.cells3 Ty.info3 rfl rfl (he45.below hB59) hp45 rfl ?_
               refine W_nil ?_
               exact N_step rfl rfl (Below.refl _ _)
              ·
               intro w60 vq60 hB60 hH60
               have hS60 := hS33.below hB60
               refine W_guard_yes rfl ?_
               refine W_ld1 0 rfl Ty.cell3 rfl (he45.below hB60) (by omega) rfl ?_
               refine W_nil ?_
               exact N_step rfl rfl (Below.refl _ _)
              ·
               intro w61 vq61 hB61 hH61
               have hS61 := hS33.below hB61
               refine W_guard_yes rfl ?_
               refine W_eql rfl rfl rfl ?_
               refine W_nil ?_
               exact N_step rfl rfl (Below.refl _ _)
             intro w62 vq62 hB62 hH62
             have hS62 := hS33.below hB62
             refine W_pick_t rfl rfl rfl ?_
             refine W_nil ?_
             exact N_join _ ⟨rfl, F33, (Frz.le.refl _), hS62⟩ ⟨rfl, rfl, rfl, rfl, rfl, (look_bool rfl (by first | rfl | (rw [hb41]; first | done | rfl) | simp [hb41])), trivial⟩
            ·
             apply C_draw 16 [[], [], [1], [0, 2], [3], [4], [4], [5, 6, 4], [7, 4], [8, 4], [9, 4], [4], [4], [11, 12, 4], [13, 4], [10, 14, 4]] [.val (.int .i64 i34), .val (ur4_0), .val (.int .i64 (r4.1.length : Int)), .val (.bool (decide (i34 < (r4.1.length : Int)))), .val (.bool false), .val undef, .val undef, .val undef, .val undef, .val undef, .val undef, .val undef, .val undef, .val undef, .val undef, .val undef] Ty.mixed rfl rfl (by kernel_rfl) (by kernel_rfl) rfl
             ·
              refine ⟨?_, ?_, ?_, ?_, ?_, ?_, ?_, ?_, ?_, ?_, ?_, ?_, ?_, ?_, ?_, ?_, trivial⟩
              ·
               intro w63 vq63 hB63 hH63
               have hS63 := hS33.below hB63
               refine W_move rfl rfl ?_
               refine W_nil ?_
               exact N_step rfl rfl (Below.refl _ _)
              ·
               intro w64 vq64 hB64 hH64
               have hS64 := hS33.below hB64
               refine W_move rfl rfl ?_
               refine W_nil ?_
               exact N_step rfl rfl (Below.refl _ _)
              ·
               intro w65 vq65 hB65 hH65
               have hS65 := hS33.below hB65
               refine W_lenv rfl Go.Proofs.Try.underlying23 rfl hf14.ln ?_
               refine W_nil ?_
               exact N_step rfl rfl (Below.refl _ _)
              ·
               intro w66 vq66 hB66 hH66
               have hS66 := hS33.below hB66
               refine W_lss rfl rfl rfl ?_
               refine W_nil ?_
               exact N_step rfl rfl (Below.refl _ _)
              ·
               intro w67 vq67 hB67 hH67
               have hS67 := hS33.below hB67
               refine W_move rfl rfl ?_
               refine W_nil ?_
               exact N_step rfl (congrArg Value.bool hb41) (Below.refl _ _)
              ·
               intro w68 vq68 hB68 hH68
               have hS68 := hS33.below hB68
               refine W_guard_no rfl rfl rfl rfl rfl ?_
               refine W_nil ?_
               exact N_step rfl rfl (Below.refl _ _)
              ·
               intro w69 vq69 hB69 hH69
               have hS69 := hS33.below hB69
               refine W_guard_no rfl rfl rfl rfl rfl ?_
               refine W_nil ?_
               exact N_step rfl rfl (Below.refl _ _)
              ·
               intro w70 vq70 hB70 hH70
               have hS70 := hS33.below hB70
               refine W_guard_no rfl rfl rfl rfl rfl ?_
               refine W_nil ?_
               exact N_step rfl rfl (Below.refl _ _)
              ·
               intro w71 vq71 hB71 hH71
               have hS71 := hS33.below hB71
               refine W_guard_no rfl rfl rfl rfl rfl ?_
               refine W_nil ?_
               exact N_step rfl rfl (Below.refl _ _)
              ·
               intro w72 vq72 hB72 hH72
               have hS72 := hS33.below hB72
               refine W_guard_no rfl rfl rfl rfl rfl ?_
               refine W_nil ?_
               exact N_step rfl rfl (Below.refl _ _)
              ·
               intro w73 vq73 hB73 hH73
               have hS73 := hS33.below hB73
               refine W_guard_no rfl rfl rfl rfl rfl ?_
               refine W_nil ?_
               exact N_step rfl rfl (Below.refl _ _)
              ·
               intro w74 vq74 hB74 hH74
               have hS74 := hS33.below hB74
               refine W_guard_no rfl rfl rfl rfl rfl ?_
               refine W_nil ?_
               exact N_step rfl rfl (Below.refl _ _)
              ·
               intro w75 vq75 hB75 hH75
               have hS75 := hS33.below hB75
               refine W_guard_no rfl rfl rfl rfl rfl ?_
               refine W_nil ?_
               exact N_step rfl rfl (Below.refl _ _)
              ·
               intro w76 vq76 hB76 hH76
               have hS76 := hS33.below hB76
               refine W_guard_no rfl rfl rfl rfl rfl ?_
               refine W_nil ?_
               exact N_step rfl rfl (Below.refl _ _)
              ·
               intro w77 vq77 hB77 hH77
               have hS77 := hS33.below hB77
               refine W_guard_no rfl rfl rfl rfl rfl ?_
               refine W_nil ?_
               exact N_step rfl rfl (Below.refl _ _)
              ·
               intro w78 vq78 hB78 hH78
               have hS78 := hS33.below hB78
               refine W_guard_no rfl rfl rfl rfl rfl ?_
               refine W_nil ?_
               exact N_step rfl rfl (Below.refl _ _)
             intro w79 vq79 hB79 hH79
             have hS79 := hS33.below hB79
             refine W_pick_f rfl rfl rfl ?_
             refine W_nil ?_
             exact N_join _ ⟨rfl, F33, (Frz.le.refl _), hS79⟩ ⟨rfl, rfl, rfl, rfl, rfl, (look_bool rfl (by first | rfl | (rw [hb41]; first | done | rfl) | simp [hb41])), trivial⟩
           rintro E w40 ⟨rfl, F40, le40, hS40⟩
           refine N_code ?_
           refine C_cond rfl (fun hc80 => ?_) (fun hc80 => ?_)
           ·
            rw [if_t hc80] at H
            refine C_skip ?_
            refine N_code ?_
            refine C_block ?_
            refine C_region ?_
            refine W_move rfl rfl ?_
            refine W_add rfl rfl rfl rfl ?_
            refine W_assign rfl rfl ?_
            refine W_nil ?_
            refine N_block ?_
            exact N_againM (wr (i34 + 1)) _ H ⟨F40, rfl, (le33.trans le40), hS40⟩ ⟨rfl, rfl, rfl, rfl, rfl, trivial⟩
           ·
            rw [if_f hc80] at H
            refine C_exit _ rfl ?_
            exact N_join _ ⟨i34, H, ⟨F40, rfl, (le33.trans le40), hS40⟩⟩ ⟨rfl, rfl, rfl, rfl, rfl, trivial⟩
         ·
          rintro E w30 ⟨i31, H, F30, rfl, le30, hS30⟩
          dsimp only [cellarerlaw21_PlanRises.k7] at H
          refine C_seq ?_
          refine C_region ?_
          refine W_move rfl rfl ?_
          refine W_move rfl rfl ?_
          refine W_eql rfl rfl rfl ?_
          refine W_nil ?_
          refine N_code ?_
          refine C_cond rfl (fun hc32 => ?_) (fun hc32 => ?_)
          ·
           rw [if_t hc32] at H
           refine C_seq ?_
           refine C_region ?_
           refine W_assign rfl rfl ?_
           refine W_nil ?_
           refine N_code ?_
           obtain rfl := Option.some.inj H
           refine C_ret rfl rfl ?_
           exact ⟨F30, rfl, hS30.pick [] (by decide)⟩
          ·
           rw [if_f hc32] at H
           refine C_skip ?_
           refine N_block ?_
           exact N_join _ ⟨i31, H, ⟨F30, rfl, le30, hS30⟩⟩ ⟨rfl, rfl, rfl, rfl, trivial⟩
        ·
         rintro E w28 ⟨i29, H, F28, rfl, le28, hS28⟩
         dsimp only [cellarerlaw21_PlanRises.k6] at H
         refine C_region ?_
         refine W_move rfl rfl ?_
         refine W_add rfl rfl rfl rfl ?_
         refine W_assign rfl rfl ?_
         refine W_nil ?_
         exact N_againM (i29, wr (i25 + 1)) _ H ⟨F28, rfl, (le23.trans le28), hS28⟩ ⟨rfl, rfl, rfl, rfl, trivial⟩
       ·
        rw [if_f hc27] at H
        refine C_exit _ rfl ?_
        exact N_join _ ⟨i24, H, ⟨F23, rfl, le23, hS23.pick [] (by decide)⟩⟩ ⟨rfl, rfl, trivial⟩
     ·
      rintro E w16 ⟨i17, H, F16, rfl, le16, hS16⟩
      dsimp only [cellarerlaw21_PlanRises.k4] at H
      refine C_seq ?_
      obtain ⟨r18, hr18, H⟩ := bd_some H
      refine C_join (fun E wq => E = [(2, .bool (decide (i17 = (r4.1.length : Int)) && r18))] ∧ ∃ F19 : Frz, F16.le F19 ∧ St [] w F F19 [] wq) ?_ ?_
      ·
       rcases Bool.eq_false_or_eq_true (decide (i17 = (r4.1.length : Int))) with hb20 | hb20
       ·
        refine C_region ?_
        refine W_move rfl rfl ?_
        refine W_move rfl rfl ?_
        refine W_lenv rfl Go.Proofs.Try.underlying23 rfl hf14.ln ?_
        refine W_eql rfl rfl rfl ?_
        refine W_move rfl rfl ?_
        refine W_known (t := 215) true rfl hb20 ?_
        refine W_guard_yes rfl ?_
        have hy21 := hr18
        rw [only_t hb20] at hy21
        refine W_call rfl Ty.named30 rfl (cellarerlaw21_wakes_ok hS16.agree hy21) ?_
        rintro v22 w22 ⟨Fr18, rfl, hT22⟩
        have hS22 := hS16.lent hT22
        refine W_pick_t rfl rfl rfl ?_
        refine W_assign rfl rfl ?_
        refine W_nil ?_
        exact N_join _ ⟨rfl, F16, (Frz.le.refl _), hS22⟩ ⟨(look_bool rfl (by first | rfl | (rw [hb20]; first | done | rfl) | simp [hb20])), trivial⟩
       ·
        refine C_region ?_
        refine W_move rfl rfl ?_
        refine W_move rfl rfl ?_
        refine W_lenv rfl Go.Proofs.Try.underlying23 rfl hf14.ln ?_
        refine W_eql rfl rfl rfl ?_
        refine W_move rfl rfl ?_
        refine W_known (t := 215) false rfl hb20 ?_
        refine W_guard_no rfl rfl rfl rfl rfl ?_
        refine W_pick_f rfl rfl rfl ?_
        refine W_assign rfl rfl ?_
        refine W_nil ?_
        exact N_join _ ⟨rfl, F16, (Frz.le.refl _), hS16⟩ ⟨(look_bool rfl (by first | rfl | (rw [hb20]; first | done | rfl) | simp [hb20])), trivial⟩
      rintro E w19 ⟨rfl, F19, le19, hS19⟩
      refine N_code ?_
      obtain rfl := Option.some.inj H
      refine C_ret rfl rfl ?_
      exact ⟨F19, rfl, hS19⟩

end Go.Wk.Lf
