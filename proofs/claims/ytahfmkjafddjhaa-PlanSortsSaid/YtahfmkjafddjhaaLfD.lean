import Derived.Test.YtahfmkjafddjhaaLfC
namespace Go.Wk.Lf
open Go.Proofs Go.RowKit
set_option linter.unusedVariables false

def cellarerlaw21_PlanSorts.k2 (x0 : List Loc) (r2 : (List Loc)) : Option Bool :=
  bd (only (decide ((r2.length : Int) ≤ (x0.length : Int)) && (decide (0 < (r2.length : Int)) == decide (0 < (x0.length : Int)))) (cellarerlaw21_wakes) false) fun r6 =>
  some ((decide ((r2.length : Int) ≤ (x0.length : Int)) && (decide (0 < (r2.length : Int)) == decide (0 < (x0.length : Int)))) && r6)


def cellarerlaw21_PlanSorts.k4 (i13 : Int) (rec14 : Int → Option Bool) : Option Bool :=
  rec14 (wr (i13 + 1))


def cellarerlaw21_PlanSorts.k5 (x0 : List Loc) (i13 : Int) (rec14 : Int → Option Bool) (b18 : Bool) : Option Bool :=
  bd (only (!(!b18)) (ix x0 i13) (Loc.mk 0 0 0 0)) fun x19 =>
  bd (only (!(!b18)) (plan_Ahead x19 x19) false) fun r21 =>
  bd (only ((!((!b18) || r21)) && decide (0 < i13)) (ix x0 i13) (Loc.mk 0 0 0 0)) fun x22 =>
  bd (only ((!((!b18) || r21)) && decide (0 < i13)) (ix x0 (wr (i13 - 1))) (Loc.mk 0 0 0 0)) fun x24 =>
  bd (only ((!((!b18) || r21)) && decide (0 < i13)) (plan_Ahead x22 x24) false) fun r26 =>
  bd (only ((!((!b18) || r21)) && decide (0 < i13)) (plan_Ahead x24 x22) false) fun r27 =>
  bd (only ((!((!b18) || r21)) && (decide (0 < i13) && (r26 == r27))) (ix x0 i13) (Loc.mk 0 0 0 0)) fun x28 =>
  bd (only ((!((!b18) || r21)) && (decide (0 < i13) && (r26 == r27))) (ix x0 (wr (i13 - 1))) (Loc.mk 0 0 0 0)) fun x30 =>
  bd (only ((!((!b18) || r21)) && (decide (0 < i13) && (r26 == r27))) (cellarerkeep_Loc x28 x30) false) fun r32 =>
  if (((!b18) || r21) || ((decide (0 < i13) && (r26 == r27)) && (!r32))) then
    some false
  else
    cellarerlaw21_PlanSorts.k4 i13 rec14


def cellarerlaw21_PlanSorts.l6 (x0 : List Loc) (r2 : (List Loc)) (i13 : Int) (rec14 : Int → Option Bool) (rec345 : (Bool × Int) → Option Bool) : (Bool × Int) → Option Bool
  | (b343, i344) =>
    if decide (i344 < (r2.length : Int)) then
      bd (only (!b343) (ix r2 i344) (Loc.mk 0 0 0 0)) fun x347 =>
      bd (only (!b343) (ix x0 i13) (Loc.mk 0 0 0 0)) fun x349 =>
      bd (only (!b343) (cellarerkeep_Loc x347 x349) false) fun r351 =>
      rec345 ((b343 || r351), wr (i344 + 1))
    else
      cellarerlaw21_PlanSorts.k5 x0 i13 rec14 b343


def cellarerlaw21_PlanSorts.l3 (x0 : List Loc) (r2 : (List Loc)) (rec14 : Int → Option Bool) : Int → Option Bool
  | i13 =>
    if decide (i13 < (x0.length : Int)) then
      loop (cellarerlaw21_PlanSorts.l6 x0 r2 i13 rec14) (false, 0)
    else
      cellarerlaw21_PlanSorts.k2 x0 r2


def cellarerlaw21_PlanSorts.k1 (x0 : List Loc) (r2 : (List Loc)) : Option Bool :=
  loop (cellarerlaw21_PlanSorts.l3 x0 r2) 0


def cellarerlaw21_PlanSorts.l7 (x0 : List Loc) (r2 : (List Loc)) (rec386 : Int → Option Bool) : Int → Option Bool
  | i385 =>
    if decide (i385 < (r2.length : Int)) then
      bd (ix r2 (wr (i385 - 1))) fun x388 =>
      bd (ix r2 i385) fun x390 =>
      bd (plan_Ahead x388 x390) fun r392 =>
      if (!r392) then
        some false
      else
        rec386 (wr (i385 + 1))
    else
      cellarerlaw21_PlanSorts.k1 x0 r2

def cellarerlaw21_PlanSorts (x0 : List Loc) : Option Bool :=
  if decide (60 < (x0.length : Int)) then
    some true
  else
    bd (plan_Sort x0) fun r2 =>
    loop (cellarerlaw21_PlanSorts.l7 x0 r2) 1

theorem cellarerlaw21_PlanSorts_ok {F : Frz} {w : World} {x0 : List Loc} {r : Bool} {v0 : Value} (hA : Agree F w.heap) (h0 : SlF Loc.t F v0 x0) (H : cellarerlaw21_PlanSorts x0 = some r) : Ret Try.prog 10 #[v0] w fun v w' => ∃ (F' : Frz), v = .bool r ∧ St [] w F F' [] w' := by
 refine Ret_of (args := [v0]) Go.Proofs.Try.func10 rfl rfl ?_
 change C _ _ _ _ [(0, v0)] _
 have hS := St.entry hA
 dsimp only [cellarerlaw21_PlanSorts] at H
 refine C_seq ?_
 refine C_region ?_
 refine W_assign rfl rfl ?_
 refine W_nil ?_
 refine N_code ?_
 refine C_seq ?_
 refine C_seq ?_
 refine C_region ?_
 refine W_move rfl rfl ?_
 refine W_lenv rfl Go.Proofs.Try.underlying49 rfl h0.ln ?_
 refine W_gtr rfl rfl rfl ?_
 refine W_nil ?_
 refine N_code ?_
 refine C_cond rfl (fun hc1 => ?_) (fun hc1 => ?_)
 ·
  rw [if_t hc1] at H
  refine C_seq ?_
  refine C_region ?_
  refine W_assign rfl rfl ?_
  refine W_nil ?_
  refine N_code ?_
  obtain rfl := Option.some.inj H
  refine C_ret rfl rfl ?_
  exact ⟨F, rfl, hS⟩
 ·
  rw [if_f hc1] at H
  refine C_skip ?_
  refine N_code ?_
  refine C_seq ?_
  obtain ⟨r2, hr2, H⟩ := bd_some H
  refine C_region ?_
  refine W_move rfl rfl ?_
  refine W_call rfl Ty.named29 rfl (plan_Sort_ok hS.agree h0 hr2) ?_
  rintro ur2_0 w3 ⟨Fr2, _, rfl, hT3⟩
  have hS3 := hS.call hT3
  have ler2 := hT3.ext
  refine W_assign rfl rfl ?_
  refine W_nil ?_
  refine N_code ?_
  refine C_seq_join (fun E wq => cellarerlaw21_PlanSorts.k1 x0 r2 = some r ∧ ∃ (F4 : Frz), E = [(0, v0), (3, ur2_0)] ∧ Fr2.le F4 ∧ St [] w F F4 [.row Loc.t 37 ur2_0 r2] wq) ?_ ?_
  ·
   refine C_seq ?_
   refine C_region ?_
   refine W_assign rfl rfl ?_
   refine W_nil ?_
   refine N_code ?_
   refine C_block ?_
   refine C_loopM (fun (s : Int) E wq => ∃ (F384 : Frz), E = [(0, v0), (3, ur2_0), (4, .int .i64 s)] ∧ Fr2.le F384 ∧ St [] w F F384 [.row Loc.t 37 ur2_0 r2] wq) H ?_ ?_
   ·
    exact ⟨_, ⟨Fr2, rfl, (Frz.le.refl _), hS3⟩, ⟨rfl, rfl, rfl, trivial⟩⟩
   ·
    rintro rec386 i385 E w384 hI H
    try dsimp only at hI
    obtain ⟨F384, rfl, le384, hS384⟩ := hI
    dsimp only [cellarerlaw21_PlanSorts.l7] at H
    refine C_seq ?_
    refine C_seq ?_
    refine C_region ?_
    refine W_move rfl rfl ?_
    refine W_move rfl rfl ?_
    refine W_lenv rfl Go.Proofs.Try.underlying49 rfl (hS384.rowLn (k := 0) rfl) ?_
    refine W_lss rfl rfl rfl ?_
    refine W_nil ?_
    refine N_code ?_
    refine C_cond rfl (fun hc387 => ?_) (fun hc387 => ?_)
    ·
     rw [if_t hc387] at H
     refine C_skip ?_
     refine N_code ?_
     refine C_seq ?_
     refine C_block ?_
     refine C_seq ?_
     obtain ⟨x388, hx388, H⟩ := bd_some H
     obtain ⟨x390, hx390, H⟩ := bd_some H
     obtain ⟨r392, hr392, H⟩ := bd_some H
     obtain ⟨hp393, hy393⟩ := ix_some hx388
     obtain ⟨cs393, hr393, he393⟩ := hS384.rowAt (k := 0) rfl hy393
     obtain rfl := hr393
     replace he393 : El _ _ 4 _ _ := he393
     obtain ⟨hp394, hy394⟩ := ix_some hx390
     obtain ⟨cs394, hr394, he394⟩ := hS384.rowAt (k := 0) rfl hy394
     obtain rfl := hr394
     replace he394 : El _ _ 4 _ _ := he394
     apply C_draw 10 [[], [], [1], [0, 2], [3], [], [], [5, 6], [7], [4, 8]] [.val (ur2_0), .val (.int .i64 i385), .val (.int .i64 (wr (i385 - 1))), .val (elp ur2_0 ((wr (i385 - 1)).toNat * 4)), .val (.agg (Loc.cells x388).toArray), .val (ur2_0), .val (.int .i64 i385), .val (elp ur2_0 (i385.toNat * 4)), .val (.agg (Loc.cells x390).toArray), .val (.bool r392)] Ty.mixed rfl rfl (by kernel_rfl) (by kernel_rfl) rfl
     ·
      refine ⟨?_, ?_, ?_, ?_, ?_, ?_, ?_, ?_, ?_, ?_, trivial⟩
      ·
       intro w395 vq395 hB395 hH395
       have hS395 := hS384.below hB395
       refine W_move rfl rfl ?_
       refine W_nil ?_
       exact N_step rfl rfl (Below.refl _ _)
      ·
       intro w396 vq396 hB396 hH396
       have hS396 := hS384.below hB396
       refine W_move rfl rfl ?_
       refine W_nil ?_
       exact N_step rfl rfl (Below.refl _ _)
      ·
       intro w397 vq397 hB397 hH397
       have hS397 := hS384.below hB397
       refine W_subi rfl rfl rfl rfl ?_
       refine W_nil ?_
       exact N_step rfl rfl (Below.refl _ _)
      ·
       intro w398 vq398 hB398 hH398
       have hS398 := hS384.below hB398
       refine W_ix rfl Go.Proofs.Try.underlying49 Ty.cells37 Ty.info37 rfl rfl (he393.below hB398) hp393 rfl ?_
       refine W_nil ?_
       exact N_step rfl rfl (Below.refl _ _)
      ·
       intro w399 vq399 hB399 hH399
       have hS399 := hS384.below hB399
       refine W_ldg 0 ((Loc.cells x388)) rfl Ty.agg37 Ty.size37 rfl (he393.below hB399) (by omega) (fun q u h => sub_at (post := []) rfl h) ?_
       refine W_nil ?_
       exact N_step rfl rfl (Below.refl _ _)
      ·
       intro w400 vq400 hB400 hH400
       have hS400 := hS384.below hB400
       refine W_move rfl rfl ?_
       refine W_nil ?_
       exact N_step rfl rfl (Below.refl _ _)
      ·
       intro w401 vq401 hB401 hH401
       have hS401 := hS384.below hB401
       refine W_move rfl rfl ?_
       refine W_nil ?_
       exact N_step rfl rfl (Below.refl _ _)
      ·
       intro w402 vq402 hB402 hH402
       have hS402 := hS384.below hB402
       refine W_ix rfl Go.Proofs.Try.underlying49 Ty.cells37 Ty.info37 rfl rfl (he394.below hB402) hp394 rfl ?_
       refine W_nil ?_
       exact N_step rfl rfl (Below.refl _ _)
      ·
       intro w403 vq403 hB403 hH403
       have hS403 := hS384.below hB403
       refine W_ldg 0 ((Loc.cells x390)) rfl Ty.agg37 Ty.size37 rfl (he394.below hB403) (by omega) (fun q u h => sub_at (post := []) rfl h) ?_
       refine W_nil ?_
       exact N_step rfl rfl (Below.refl _ _)
      ·
       intro w404 vq404 hB404 hH404
       have hS404 := hS384.below hB404
       refine W_call rfl Ty.named31 rfl (plan_Ahead_ok hS404.agree hr392) ?_
       rintro v405 w405 ⟨Fr392, rfl, hT405⟩
       have hS405 := hS404.lent hT405
       refine W_nil ?_
       exact N_step rfl rfl hT405.below0
     intro w406 vq406 hB406 hH406
     have hS406 := hS384.below hB406
     refine W_not rfl rfl ?_
     refine W_nil ?_
     refine N_code ?_
     refine C_cond rfl (fun hc407 => ?_) (fun hc407 => ?_)
     ·
      rw [if_t hc407] at H
      refine C_seq ?_
      refine C_region ?_
      refine W_assign rfl rfl ?_
      refine W_nil ?_
      refine N_code ?_
      obtain rfl := Option.some.inj H
      refine C_ret rfl rfl ?_
      exact ⟨F384, rfl, hS406.pick [] (by decide)⟩
     ·
      rw [if_f hc407] at H
      refine C_skip ?_
      refine N_block ?_
      refine N_code ?_
      refine C_region ?_
      refine W_move rfl rfl ?_
      refine W_add rfl rfl rfl rfl ?_
      refine W_assign rfl rfl ?_
      refine W_nil ?_
      exact N_againM (wr (i385 + 1)) _ H ⟨F384, rfl, le384, hS406⟩ ⟨rfl, rfl, rfl, trivial⟩
    ·
     rw [if_f hc387] at H
     refine C_exit _ rfl ?_
     exact N_join _ ⟨H, ⟨F384, rfl, le384, hS384⟩⟩ ⟨rfl, rfl, trivial⟩
  ·
   rintro E w4 ⟨H, F4, rfl, le4, hS4⟩
   dsimp only [cellarerlaw21_PlanSorts.k1] at H
   refine C_seq_join (fun E wq => cellarerlaw21_PlanSorts.k2 x0 r2 = some r ∧ ∃ (F5 : Frz), E = [(0, v0), (3, ur2_0)] ∧ F4.le F5 ∧ St [] w F F5 [.row Loc.t 37 ur2_0 r2] wq) ?_ ?_
   ·
    refine C_seq ?_
    refine C_region ?_
    refine W_assign rfl rfl ?_
    refine W_nil ?_
    refine N_code ?_
    refine C_block ?_
    refine C_loopM (fun (s : Int) E wq => ∃ (F12 : Frz), E = [(0, v0), (3, ur2_0), (5, .int .i64 s)] ∧ F4.le F12 ∧ St [] w F F12 [.row Loc.t 37 ur2_0 r2] wq) H ?_ ?_
    ·
     exact ⟨_, ⟨F4, rfl, (Frz.le.refl _), hS4⟩, ⟨rfl, rfl, rfl, trivial⟩⟩
    ·
     rintro rec14 i13 E w12 hI H
     try dsimp only at hI
     obtain ⟨F12, rfl, le12, hS12⟩ := hI
     dsimp only [cellarerlaw21_PlanSorts.l3] at H
     refine C_seq ?_
     refine C_seq ?_
     refine C_region ?_
     refine W_move rfl rfl ?_
     refine W_move rfl rfl ?_
     refine W_lenv rfl Go.Proofs.Try.underlying49 rfl h0.ln ?_
     refine W_lss rfl rfl rfl ?_
     refine W_nil ?_
     refine N_code ?_
     refine C_cond rfl (fun hc15 => ?_) (fun hc15 => ?_)
     ·
      rw [if_t hc15] at H
      refine C_skip ?_
      refine N_code ?_
      refine C_seq_join (fun E wq => cellarerlaw21_PlanSorts.k4 i13 rec14 = some r ∧ ∃ (F16 : Frz), E = [(0, v0), (3, ur2_0), (5, .int .i64 i13)] ∧ F12.le F16 ∧ St [] w F F16 [.row Loc.t 37 ur2_0 r2] wq) ?_ ?_
      ·
       refine C_block ?_
       refine C_seq ?_
       refine C_region ?_
       refine W_assign rfl rfl ?_
       refine W_nil ?_
       refine N_code ?_
       refine C_seq_join (fun E wq => ∃ b18 : Bool, cellarerlaw21_PlanSorts.k5 x0 i13 rec14 b18 = some r ∧ ∃ (F17 : Frz), E = [(0, v0), (3, ur2_0), (5, .int .i64 i13), (6, .bool b18)] ∧ F12.le F17 ∧ St [] w F F17 [.row Loc.t 37 ur2_0 r2] wq) ?_ ?_
       ·
        refine C_seq ?_
        refine C_region ?_
        refine W_assign rfl rfl ?_
        refine W_nil ?_
        refine N_code ?_
        refine C_block ?_
        refine C_loopM (fun (s : Bool × Int) E wq => ∃ (F342 : Frz), E = [(0, v0), (3, ur2_0), (5, .int .i64 i13), (6, .bool s.1), (7, .int .i64 s.2)] ∧ F12.le F342 ∧ St [] w F F342 [.row Loc.t 37 ur2_0 r2] wq) H ?_ ?_
        ·
         exact ⟨_, ⟨F12, rfl, (Frz.le.refl _), hS12⟩, ⟨rfl, rfl, rfl, rfl, rfl, trivial⟩⟩
        ·
         rintro rec345 ⟨b343, i344⟩ E w342 hI H
         try dsimp only at hI
         obtain ⟨F342, rfl, le342, hS342⟩ := hI
         dsimp only [cellarerlaw21_PlanSorts.l6] at H
         refine C_seq ?_
         refine C_seq ?_
         refine C_region ?_
         refine W_move rfl rfl ?_
         refine W_move rfl rfl ?_
         refine W_lenv rfl Go.Proofs.Try.underlying49 rfl (hS342.rowLn (k := 0) rfl) ?_
         refine W_lss rfl rfl rfl ?_
         refine W_nil ?_
         refine N_code ?_
         refine C_cond rfl (fun hc346 => ?_) (fun hc346 => ?_)
         ·
          rw [if_t hc346] at H
          refine C_skip ?_
          refine N_code ?_
          refine C_seq ?_
          refine C_block ?_
          obtain ⟨x347, hx347, H⟩ := bd_some H
          obtain ⟨x349, hx349, H⟩ := bd_some H
          obtain ⟨r351, hr351, H⟩ := bd_some H
          refine C_join (fun E wq => E = [(0, v0), (3, ur2_0), (5, .int .i64 i13), (6, .bool (b343 || r351)), (7, .int .i64 i344)] ∧ ∃ F352 : Frz, F342.le F352 ∧ St [] w F F352 [.row Loc.t 37 ur2_0 r2] wq) ?_ ?_
          ·
           rcases Bool.eq_false_or_eq_true b343 with hb353 | hb353
           ·
            apply C_draw 11 [[], [0], [1], [1], [2, 3, 1], [4, 1], [1], [1], [6, 7, 1], [8, 1], [5, 9, 1]] [.val (.bool b343), .val (.bool true), .val undef, .val undef, .val undef, .val undef, .val undef, .val undef, .val undef, .val undef, .val undef] Ty.mixed rfl rfl (by kernel_rfl) (by kernel_rfl) rfl
            ·
             refine ⟨?_, ?_, ?_, ?_, ?_, ?_, ?_, ?_, ?_, ?_, ?_, trivial⟩
             ·
              intro w354 vq354 hB354 hH354
              have hS354 := hS342.below hB354
              refine W_move rfl rfl ?_
              refine W_nil ?_
              exact N_step rfl rfl (Below.refl _ _)
             ·
              intro w355 vq355 hB355 hH355
              have hS355 := hS342.below hB355
              refine W_move rfl rfl ?_
              refine W_nil ?_
              exact N_step rfl (congrArg Value.bool hb353) (Below.refl _ _)
             ·
              intro w356 vq356 hB356 hH356
              have hS356 := hS342.below hB356
              refine W_guard_no rfl rfl rfl rfl rfl ?_
              refine W_nil ?_
              exact N_step rfl rfl (Below.refl _ _)
             ·
              intro w357 vq357 hB357 hH357
              have hS357 := hS342.below hB357
              refine W_guard_no rfl rfl rfl rfl rfl ?_
              refine W_nil ?_
              exact N_step rfl rfl (Below.refl _ _)
             ·
              intro w358 vq358 hB358 hH358
              have hS358 := hS342.below hB358
              refine W_guard_no rfl rfl rfl rfl rfl ?_
              refine W_nil ?_
              exact N_step rfl rfl (Below.refl _ _)
             ·
              intro w359 vq359 hB359 hH359
              have hS359 := hS342.below hB359
              refine W_guard_no rfl rfl rfl rfl rfl ?_
              refine W_nil ?_
              exact N_step rfl rfl (Below.refl _ _)
             ·
              intro w360 vq360 hB360 hH360
              have hS360 := hS342.below hB360
              refine W_guard_no rfl rfl rfl rfl rfl ?_
              refine W_nil ?_
              exact N_step rfl rfl (Below.refl _ _)
             ·
              intro w361 vq361 hB361 hH361
              have hS361 := hS342.below hB361
              refine W_guard_no rfl rfl rfl rfl rfl ?_
              refine W_nil ?_
              exact N_step rfl rfl (Below.refl _ _)
             ·
              intro w362 vq362 hB362 hH362
              have hS362 := hS342.below hB362
              refine W_guard_no rfl rfl rfl rfl rfl ?_
              refine W_nil ?_
              exact N_step rfl rfl (Below.refl _ _)
             ·
              intro w363 vq363 hB363 hH363
              have hS363 := hS342.below hB363
              refine W_guard_no rfl rfl rfl rfl rfl ?_
              refine W_nil ?_
              exact N_step rfl rfl (Below.refl _ _)
             ·
              intro w364 vq364 hB364 hH364
              have hS364 := hS342.below hB364
              refine W_guard_no rfl rfl rfl rfl rfl ?_
              refine W_nil ?_
              exact N_step rfl rfl (Below.refl _ _)
            intro w365 vq365 hB365 hH365
            have hS365 := hS342.below hB365
            refine W_pick_t rfl rfl rfl ?_
            refine W_assign rfl rfl ?_
            refine W_nil ?_
            exact N_join _ ⟨rfl, F342, (Frz.le.refl _), hS365⟩ ⟨rfl, rfl, rfl, (look_bool rfl (by first | rfl | (rw [hb353]; first | done | rfl) | simp [hb353])), rfl, trivial⟩
           ·
            have hy366 := hx347
            rw [only_t (by first | rfl | (rw [hb353]; first | done | rfl) | simp [hb353])] at hy366
            obtain ⟨hp367, hy367⟩ := ix_some hy366
            obtain ⟨cs367, hr367, he367⟩ := hS342.rowAt (k := 0) rfl hy367
            obtain rfl := hr367
            replace he367 : El _ _ 4 _ _ := he367
            have hy368 := hx349
            rw [only_t (by first | rfl | (rw [hb353]; first | done | rfl) | simp [hb353])] at hy368
            obtain ⟨hp369, hy369⟩ := ix_some hy368
            obtain ⟨cs369, hr369, he369⟩ := (h0.mono (((ler2.trans le4).trans le12).trans le342)).at_ hy369
            obtain rfl := hr369
            replace he369 : Elf _ _ 4 _ _ := he369
            apply C_draw 11 [[], [0], [1], [1], [2, 3, 1], [4, 1], [1], [1], [6, 7, 1], [8, 1], [5, 9, 1]] [.val (.bool b343), .val (.bool false), .val (ur2_0), .val (.int .i64 i344), .val (elp ur2_0 (i344.toNat * 4)), .val (.agg (Loc.cells x347).toArray), .val (v0), .val (.int .i64 i13), .val (elp v0 (i13.toNat * 4)), .val (.agg (Loc.cells x349).toArray), .val (.bool r351)] Ty.mixed rfl rfl (by kernel_rfl) (by kernel_rfl) rfl
            ·
             refine ⟨?_, ?_, ?_, ?_, ?_, ?_, ?_, ?_, ?_, ?_, ?_, trivial⟩
             ·
              intro w370 vq370 hB370 hH370
              have hS370 := hS342.below hB370
              refine W_move rfl rfl ?_
              refine W_nil ?_
              exact N_step rfl rfl (Below.refl _ _)
             ·
              intro w371 vq371 hB371 hH371
              have hS371 := hS342.below hB371
              refine W_move rfl rfl ?_
              refine W_nil ?_
              exact N_step rfl (congrArg Value.bool hb353) (Below.refl _ _)
             ·
              intro w372 vq372 hB372 hH372
              have hS372 := hS342.below hB372
              refine W_guard_yes rfl ?_
              refine W_move rfl rfl ?_
              refine W_nil ?_
              exact N_step rfl rfl (Below.refl _ _)
             ·
              intro w373 vq373 hB373 hH373
              have hS373 := hS342.below hB373
              refine W_guard_yes rfl ?_
              refine W_move rfl rfl ?_
              refine W_nil ?_
              exact N_step rfl rfl (Below.refl _ _)
             ·
              intro w374 vq374 hB374 hH374
              have hS374 := hS342.below hB374
              refine W_guard_yes rfl ?_
              refine W_ix rfl Go.Proofs.Try.underlying49 Ty.cells37 Ty.info37 rfl rfl (he367.below hB374) hp367 rfl ?_
              refine W_nil ?_
              exact N_step rfl rfl (Below.refl _ _)
             ·
              intro w375 vq375 hB375 hH375
              have hS375 := hS342.below hB375
              refine W_guard_yes rfl ?_
              refine W_ldg 0 ((Loc.cells x347)) rfl Ty.agg37 Ty.size37 rfl (he367.below hB375) (by omega) (fun q u h => sub_at (post := []) rfl h) ?_
              refine W_nil ?_
              exact N_step rfl rfl (Below.refl _ _)
             ·
              intro w376 vq376 hB376 hH376
              have hS376 := hS342.below hB376
              refine W_guard_yes rfl ?_
              refine W_move rfl rfl ?_
              refine W_nil ?_
              exact N_step rfl rfl (Below.refl _ _)
             ·
              intro w377 vq377 hB377 hH377
              have hS377 := hS342.below hB377
              refine W_guard_yes rfl ?_
              refine W_move rfl rfl ?_
              refine W_nil ?_
              exact N_step rfl rfl (Below.refl _ _)
             ·
              intro w378 vq378 hB378 hH378
              have hS378 := hS342.below hB378
              refine W_guard_yes rfl ?_
              refine W_ix rfl Go.Proofs.Try.underlying49 Ty.cells37 Ty.info37 rfl rfl (he369.el hS378.agree) hp369 rfl ?_
              refine W_nil ?_
              exact N_step rfl rfl (Below.refl _ _)
             ·
              intro w379 vq379 hB379 hH379
              have hS379 := hS342.below hB379
              refine W_guard_yes rfl ?_
              refine W_ldg 0 ((Loc.cells x349)) rfl Ty.agg37 Ty.size37 rfl (he369.el hS379.agree) (by omega) (fun q u h => sub_at (post := []) rfl h) ?_
              refine W_nil ?_
              exact N_step rfl rfl (Below.refl _ _)
             ·
              intro w380 vq380 hB380 hH380
              have hS380 := hS342.below hB380
              refine W_guard_yes rfl ?_
              have hy381 := hr351
              rw [only_t (by first | rfl | (rw [hb353]; first | done | rfl) | simp [hb353])] at hy381
              refine W_call rfl Ty.named24 rfl (cellarerkeep_Loc_ok hS380.agree hy381) ?_
              rintro v382 w382 ⟨Fr351, rfl, hT382⟩
              have hS382 := hS380.lent hT382
              refine W_nil ?_
              exact N_step rfl rfl hT382.below0
            intro w383 vq383 hB383 hH383
            have hS383 := hS342.below hB383
            refine W_pick_f rfl rfl rfl ?_
            refine W_assign rfl rfl ?_
            refine W_nil ?_
            exact N_join _ ⟨rfl, F342, (Frz.le.refl _), hS383⟩ ⟨rfl, rfl, rfl, (look_bool rfl (by first | rfl | (rw [hb353]; first | done | rfl) | simp [hb353])), rfl, trivial⟩
          rintro E w352 ⟨rfl, F352, le352, hS352⟩
          refine N_block ?_
          refine N_code ?_
          refine C_region ?_
          refine W_move rfl rfl ?_
          refine W_add rfl rfl rfl rfl ?_
          refine W_assign rfl rfl ?_
          refine W_nil ?_
          exact N_againM ((b343 || r351), wr (i344 + 1)) _ H ⟨F352, rfl, (le342.trans le352), hS352⟩ ⟨rfl, rfl, rfl, rfl, rfl, trivial⟩
         ·
          rw [if_f hc346] at H
          refine C_exit _ rfl ?_
          exact N_join _ ⟨b343, H, ⟨F342, rfl, le342, hS342⟩⟩ ⟨rfl, rfl, rfl, rfl, trivial⟩
       ·
        rintro E w17 ⟨b18, H, F17, rfl, le17, hS17⟩
        dsimp only [cellarerlaw21_PlanSorts.k5] at H
        refine C_seq ?_
        obtain ⟨x19, hx19, H⟩ := bd_some H
        obtain ⟨r21, hr21, H⟩ := bd_some H
        obtain ⟨x22, hx22, H⟩ := bd_some H
        obtain ⟨x24, hx24, H⟩ := bd_some H
        obtain ⟨r26, hr26, H⟩ := bd_some H
        obtain ⟨r27, hr27, H⟩ := bd_some H
        obtain ⟨x28, hx28, H⟩ := bd_some H
        obtain ⟨x30, hx30, H⟩ := bd_some H
        obtain ⟨r32, hr32, H⟩ := bd_some H
        refine C_join (fun E wq => E = [(0, v0), (3, ur2_0), (5, .int .i64 i13), (106, .bool (((!b18) || r21) || ((decide (0 < i13) && (r26 == r27)) && (!r32))))] ∧ ∃ F33 : Frz, F17.le F33 ∧ St [] w F F33 [.row Loc.t 37 ur2_0 r2] wq) ?_ ?_
        ·
         rcases Bool.eq_false_or_eq_true (!b18) with hb34 | hb34
         ·
          apply C_draw 52 [[], [0], [1], [2], [2], [3, 4, 2], [5, 2], [2], [2], [7, 8, 2], [9, 2], [6, 10, 2], [2, 11], [12], [13], [14, 13], [15, 13], [16], [16], [17, 18, 16], [19, 16], [16], [16], [22, 16], [21, 23, 16], [24, 16], [20, 25, 16], [16], [16], [28, 16], [27, 29, 16], [30, 16], [16], [16], [32, 33, 16], [34, 16], [31, 35, 16], [26, 36, 16], [16, 37, 13], [38, 13], [39], [39], [40, 41, 39], [42, 39], [39], [39], [45, 39], [44, 46, 39], [47, 39], [43, 48, 39], [49, 39], [39, 50, 13]] [.val (.bool b18), .val (.bool (!b18)), .val (.bool true), .val undef, .val undef, .val undef, .val undef, .val undef, .val undef, .val undef, .val undef, .val undef, .val (.bool true), .val (.bool true), .val undef, .val undef, .val undef, .val undef, .val undef, .val undef, .val undef, .val undef, .val undef, .val undef, .val undef, .val undef, .val undef, .val undef, .val undef, .val undef, .val undef, .val undef, .val undef, .val undef, .val undef, .val undef, .val undef, .val undef, .val undef, .val undef, .val undef, .val undef, .val undef, .val undef, .val undef, .val undef, .val undef, .val undef, .val undef, .val undef, .val undef, .val undef] Ty.mixed rfl rfl (by kernel_rfl) (by kernel_rfl) rfl
          ·
           refine ⟨?_, ?_, ?_, ?_, ?_, ?_, ?_, ?_, ?_, ?_, ?_, ?_, ?_, ?_, ?_, ?_, ?_, ?_, ?_, ?_, ?_, ?_, ?_, ?_, ?_, ?_, ?_, ?_, ?_, ?_, ?_, ?_, ?_, ?_, ?_, ?_, ?_, ?_, ?_, ?_, ?_, ?_, ?_, ?_, ?_, ?_, ?_, ?_, ?_, ?_, ?_, ?_, trivial⟩
           ·
            intro w35 vq35 hB35 hH35
            have hS35 := hS17.below hB35
            refine W_move rfl rfl ?_
            refine W_nil ?_
            exact N_step rfl rfl (Below.refl _ _)
           ·
            intro w36 vq36 hB36 hH36
            have hS36 := hS17.below hB36
            refine W_not rfl rfl ?_
            refine W_nil ?_
            exact N_step rfl rfl (Below.refl _ _)
           ·
            intro w37 vq37 hB37 hH37
            have hS37 := hS17.below hB37
            refine W_move rfl rfl ?_
            refine W_nil ?_
            exact N_step rfl (congrArg Value.bool hb34) (Below.refl _ _)
           ·
            intro w38 vq38 hB38 hH38
            have hS38 := hS17.below hB38
            refine W_guard_no rfl rfl rfl rfl rfl ?_
            refine W_nil ?_
            exact N_step rfl rfl (Below.refl _ _)
           ·
            intro w39 vq39 hB39 hH39
            have hS39 := hS17.below hB39
            refine W_guard_no rfl rfl rfl rfl rfl ?_
            refine W_nil ?_
            exact N_step rfl rfl (Below.refl _ _)
           ·
            intro w40 vq40 hB40 hH40
            have hS40 := hS17.below hB40
            refine W_guard_no rfl rfl rfl rfl rfl ?_
            refine W_nil ?_
            exact N_step rfl rfl (Below.refl _ _)
           ·
            intro w41 vq41 hB41 hH41
            have hS41 := hS17.below hB41
            refine W_guard_no rfl rfl rfl rfl rfl ?_
            refine W_nil ?_
            exact N_step rfl rfl (Below.refl _ _)
           ·
            intro w42 vq42 hB42 hH42
            have hS42 := hS17.below hB42
            refine W_guard_no rfl rfl rfl rfl rfl ?_
            refine W_nil ?_
            exact N_step rfl rfl (Below.refl _ _)
           ·
            intro w43 vq43 hB43 hH43
            have hS43 := hS17.below hB43
            refine W_guard_no rfl rfl rfl rfl rfl ?_
            refine W_nil ?_
            exact N_step rfl rfl (Below.refl _ _)
           ·
            intro w44 vq44 hB44 hH44
            have hS44 := hS17.below hB44
            refine W_guard_no rfl rfl rfl rfl rfl ?_
            refine W_nil ?_
            exact N_step rfl rfl (Below.refl _ _)
           ·
            intro w45 vq45 hB45 hH45
            have hS45 := hS17.below hB45
            refine W_guard_no rfl rfl rfl rfl rfl ?_
            refine W_nil ?_
            exact N_step rfl rfl (Below.refl _ _)
           ·
            intro w46 vq46 hB46 hH46
            have hS46 := hS17.below hB46
            refine W_guard_no rfl rfl rfl rfl rfl ?_
            refine W_nil ?_
            exact N_step rfl rfl (Below.refl _ _)
           ·
            intro w47 vq47 hB47 hH47
            have hS47 := hS17.below hB47
            refine W_pick_t rfl rfl rfl ?_
            refine W_nil ?_
            exact N_step rfl rfl (Below.refl _ _)
           ·
            intro w48 vq48 hB48 hH48
            have hS48 := hS17.below hB48
            refine W_move rfl rfl ?_
            refine W_nil ?_
            exact N_step rfl rfl (Below.refl _ _)
           ·
            intro w49 vq49 hB49 hH49
            have hS49 := hS17.below hB49
            refine W_guard_no rfl rfl rfl rfl rfl ?_
            refine W_nil ?_
            exact N_step rfl rfl (Below.refl _ _)
           ·
            intro w50 vq50 hB50 hH50
            have hS50 := hS17.below hB50
            refine W_guard_no rfl rfl rfl rfl rfl ?_
            refine W_nil ?_
            exact N_step rfl rfl (Below.refl _ _)
           ·
            intro w51 vq51 hB51 hH51
            have hS51 := hS17.below hB51
            refine W_guard_no rfl rfl rfl rfl rfl ?_
            refine W_nil ?_
            exact N_step rfl rfl (Below.refl _ _)
           ·
            intro w52 vq52 hB52 hH52
            have hS52 := hS17.below hB52
            refine W_guard_un rfl rfl rfl rfl ?_
            refine W_nil ?_
            exact N_step rfl rfl (Below.refl _ _)
           ·
            intro w53 vq53 hB53 hH53
            have hS53 := hS17.below hB53
            refine W_guard_un rfl rfl rfl rfl ?_
            refine W_nil ?_
            exact N_step rfl rfl (Below.refl _ _)
           ·
            intro w54 vq54 hB54 hH54
            have hS54 := hS17.below hB54
            refine W_guard_un rfl rfl rfl rfl ?_
            refine W_nil ?_
            exact N_step rfl rfl (Below.refl _ _)
           ·
            intro w55 vq55 hB55 hH55
            have hS55 := hS17.below hB55
            refine W_guard_un rfl rfl rfl rfl ?_
            refine W_nil ?_
            exact N_step rfl rfl (Below.refl _ _)
           ·
            intro w56 vq56 hB56 hH56
            have hS56 := hS17.below hB56
            refine W_guard_un rfl rfl rfl rfl ?_
            refine W_nil ?_
            exact N_step rfl rfl (Below.refl _ _)
           ·
            intro w57 vq57 hB57 hH57
            have hS57 := hS17.below hB57
            refine W_guard_un rfl rfl rfl rfl ?_
            refine W_nil ?_
            exact N_step rfl rfl (Below.refl _ _)
           ·
            intro w58 vq58 hB58 hH58
            have hS58 := hS17.below hB58
            refine W_guard_un rfl rfl rfl rfl ?_
            refine W_nil ?_
            exact N_step rfl rfl (Below.refl _ _)
           ·
            intro w59 vq59 hB59 hH59
            have hS59 := hS17.below hB59
            refine W_guard_un rfl rfl rfl rfl ?_
            refine W_nil ?_
            exact N_step rfl rfl (Below.refl _ _)
           ·
            intro w60 vq60 hB60 hH60
            have hS60 := hS17.below hB60
            refine W_guard_un rfl rfl rfl rfl ?_
            refine W_nil ?_
            exact N_step rfl rfl (Below.refl _ _)
           ·
            intro w61 vq61 hB61 hH61
            have hS61 := hS17.below hB61
            refine W_guard_un rfl rfl rfl rfl ?_
            refine W_nil ?_
            exact N_step rfl rfl (Below.refl _ _)
           ·
            intro w62 vq62 hB62 hH62
            have hS62 := hS17.below hB62
            refine W_guard_un rfl rfl rfl rfl ?_
            refine W_nil ?_
            exact N_step rfl rfl (Below.refl _ _)
           ·
            intro w63 vq63 hB63 hH63
            have hS63 := hS17.below hB63
            refine W_guard_un rfl rfl rfl rfl ?_
            refine W_nil ?_
            exact N_step rfl rfl (Below.refl _ _)
           ·
            intro w64 vq64 hB64 hH64
            have hS64 := hS17.below hB64
            refine W_guard_un rfl rfl rfl rfl ?_
            refine W_nil ?_
            exact N_step rfl rfl (Below.refl _ _)
           ·
            intro w65 vq65 hB65 hH65
            have hS65 := hS17.below hB65
            refine W_guard_un rfl rfl rfl rfl ?_
            refine W_nil ?_
            exact N_step rfl rfl (Below.refl _ _)
           ·
            intro w66 vq66 hB66 hH66
            have hS66 := hS17.below hB66
            refine W_guard_un rfl rfl rfl rfl ?_
            refine W_nil ?_
            exact N_step rfl rfl (Below.refl _ _)
           ·
            intro w67 vq67 hB67 hH67
            have hS67 := hS17.below hB67
            refine W_guard_un rfl rfl rfl rfl ?_
            refine W_nil ?_
            exact N_step rfl rfl (Below.refl _ _)
           ·
            intro w68 vq68 hB68 hH68
            have hS68 := hS17.below hB68
            refine W_guard_un rfl rfl rfl rfl ?_
            refine W_nil ?_
            exact N_step rfl rfl (Below.refl _ _)
           ·
            intro w69 vq69 hB69 hH69
            have hS69 := hS17.below hB69
            refine W_guard_un rfl rfl rfl rfl ?_
            refine W_nil ?_
            exact N_step rfl rfl (Below.refl _ _)
           ·
            intro w70 vq70 hB70 hH70
            have hS70 := hS17.below hB70
            refine W_guard_un rfl rfl rfl rfl ?_
            refine W_nil ?_
            exact N_step rfl rfl (Below.refl _ _)
           ·
            intro w71 vq71 hB71 hH71
            have hS71 := hS17.below hB71
            refine W_guard_un rfl rfl rfl rfl ?_
            refine W_nil ?_
            exact N_step rfl rfl (Below.refl _ _)
           ·
            intro w72 vq72 hB72 hH72
            have hS72 := hS17.below hB72
            refine W_guard_un rfl rfl rfl rfl ?_
            refine W_nil ?_
            exact N_step rfl rfl (Below.refl _ _)
           ·
            intro w73 vq73 hB73 hH73
            have hS73 := hS17.below hB73
            refine W_guard_no rfl rfl rfl rfl rfl ?_
            refine W_nil ?_
            exact N_step rfl rfl (Below.refl _ _)
           ·
            intro w74 vq74 hB74 hH74
            have hS74 := hS17.below hB74
            refine W_guard_no rfl rfl rfl rfl rfl ?_
            refine W_nil ?_
            exact N_step rfl rfl (Below.refl _ _)
           ·
            intro w75 vq75 hB75 hH75
            have hS75 := hS17.below hB75
            refine W_guard_un rfl rfl rfl rfl ?_
            refine W_nil ?_
            exact N_step rfl rfl (Below.refl _ _)
           ·
            intro w76 vq76 hB76 hH76
            have hS76 := hS17.below hB76
            refine W_guard_un rfl rfl rfl rfl ?_
            refine W_nil ?_
            exact N_step rfl rfl (Below.refl _ _)
           ·
            intro w77 vq77 hB77 hH77
            have hS77 := hS17.below hB77
            refine W_guard_un rfl rfl rfl rfl ?_
            refine W_nil ?_
            exact N_step rfl rfl (Below.refl _ _)
           ·
            intro w78 vq78 hB78 hH78
            have hS78 := hS17.below hB78
            refine W_guard_un rfl rfl rfl rfl ?_
            refine W_nil ?_
            exact N_step rfl rfl (Below.refl _ _)
           ·
            intro w79 vq79 hB79 hH79
            have hS79 := hS17.below hB79
            refine W_guard_un rfl rfl rfl rfl ?_
            refine W_nil ?_
            exact N_step rfl rfl (Below.refl _ _)
           ·
            intro w80 vq80 hB80 hH80
            have hS80 := hS17.below hB80
            refine W_guard_un rfl rfl rfl rfl ?_
            refine W_nil ?_
            exact N_step rfl rfl (Below.refl _ _)
           ·
            intro w81 vq81 hB81 hH81
            have hS81 := hS17.below hB81
            refine W_guard_un rfl rfl rfl rfl ?_
            refine W_nil ?_
            exact N_step rfl rfl (Below.refl _ _)
           ·
            intro w82 vq82 hB82 hH82
            have hS82 := hS17.below hB82
            refine W_guard_un rfl rfl rfl rfl ?_
            refine W_nil ?_
            exact N_step rfl rfl (Below.refl _ _)
           ·
            intro w83 vq83 hB83 hH83
            have hS83 := hS17.below hB83
            refine W_guard_un rfl rfl rfl rfl ?_
            refine W_nil ?_
            exact N_step rfl rfl (Below.refl _ _)
           ·
            intro w84 vq84 hB84 hH84
            have hS84 := hS17.below hB84
            refine W_guard_un rfl rfl rfl rfl ?_
            refine W_nil ?_
            exact N_step rfl rfl (Below.refl _ _)
           ·
            intro w85 vq85 hB85 hH85
            have hS85 := hS17.below hB85
            refine W_guard_un rfl rfl rfl rfl ?_
            refine W_nil ?_
            exact N_step rfl rfl (Below.refl _ _)
           ·
            intro w86 vq86 hB86 hH86
            have hS86 := hS17.below hB86
            refine W_guard_no rfl rfl rfl rfl rfl ?_
            refine W_nil ?_
            exact N_step rfl rfl (Below.refl _ _)
          intro w87 vq87 hB87 hH87
          have hS87 := hS17.below hB87
          refine W_pick_t rfl rfl rfl ?_
          refine W_nil ?_
          exact N_join _ ⟨rfl, F17, (Frz.le.refl _), hS87⟩ ⟨rfl, rfl, rfl, (look_bool rfl (by first | rfl | (rw [hb34]; first | done | rfl) | simp [hb34])), trivial⟩
         ·
          rcases Bool.eq_false_or_eq_true r21 with hb88 | hb88
          ·
           have hy89 := hx19
           rw [only_t (by first | rfl | (rw [hb34]; first | done | rfl) | simp [hb34, hb88])] at hy89
           obtain ⟨hp90, hy90⟩ := ix_some hy89
           obtain ⟨cs90, hr90, he90⟩ := (h0.mono (((ler2.trans le4).trans le12).trans le17)).at_ hy90
           obtain rfl := hr90
           replace he90 : Elf _ _ 4 _ _ := he90
           apply C_draw 52 [[], [0], [1], [2], [2], [3, 4, 2], [5, 2], [2], [2], [7, 8, 2], [9, 2], [6, 10, 2], [2, 11], [12], [13], [14, 13], [15, 13], [16], [16], [17, 18, 16], [19, 16], [16], [16], [22, 16], [21, 23, 16], [24, 16], [20, 25, 16], [16], [16], [28, 16], [27, 29, 16], [30, 16], [16], [16], [32, 33, 16], [34, 16], [31, 35, 16], [26, 36, 16], [16, 37, 13], [38, 13], [39], [39], [40, 41, 39], [42, 39], [39], [39], [45, 39], [44, 46, 39], [47, 39], [43, 48, 39], [49, 39], [39, 50, 13]] [.val (.bool b18), .val (.bool (!b18)), .val (.bool false), .val (v0), .val (.int .i64 i13), .val (elp v0 (i13.toNat * 4)), .val (.agg (Loc.cells x19).toArray), .val (v0), .val (.int .i64 i13), .val (elp v0 (i13.toNat * 4)), .val (.agg (Loc.cells x19).toArray), .val (.bool r21), .val (.bool r21), .val (.bool true), .val undef, .val undef, .val undef, .val undef, .val undef, .val undef, .val undef, .val undef, .val undef, .val undef, .val undef, .val undef, .val undef, .val undef, .val undef, .val undef, .val undef, .val undef, .val undef, .val undef, .val undef, .val undef, .val undef, .val undef, .val undef, .val undef, .val undef, .val undef, .val undef, .val undef, .val undef, .val undef, .val undef, .val undef, .val undef, .val undef, .val undef, .val undef] Ty.mixed rfl rfl (by kernel_rfl) (by kernel_rfl) rfl
           ·
            refine ⟨?_, ?_, ?_, ?_, ?_, ?_, ?_, ?_, ?_, ?_, ?_, ?_, ?_, ?_, ?_, ?_, ?_, ?_, ?_, ?_, ?_, ?_, ?_, ?_, ?_, ?_, ?_, ?_, ?_, ?_, ?_, ?_, ?_, ?_, ?_, ?_, ?_, ?_, ?_, ?_, ?_, ?_, ?_, ?_, ?_, ?_, ?_, ?_, ?_, ?_, ?_, ?_, trivial⟩
            ·
             intro w91 vq91 hB91 hH91
             have hS91 := hS17.below hB91
             refine W_move rfl rfl ?_
             refine W_nil ?_
             exact N_step rfl rfl (Below.refl _ _)
            ·
             intro w92 vq92 hB92 hH92
             have hS92 := hS17.below hB92
             refine W_not rfl rfl ?_
             refine W_nil ?_
             exact N_step rfl rfl (Below.refl _ _)
            ·
             intro w93 vq93 hB93 hH93
             have hS93 := hS17.below hB93
             refine W_move rfl rfl ?_
             refine W_nil ?_
             exact N_step rfl (congrArg Value.bool hb34) (Below.refl _ _)
            ·
             intro w94 vq94 hB94 hH94
             have hS94 := hS17.below hB94
             refine W_guard_yes rfl ?_
             refine W_move rfl rfl ?_
             refine W_nil ?_
             exact N_step rfl rfl (Below.refl _ _)
            ·
             intro w95 vq95 hB95 hH95
             have hS95 := hS17.below hB95
             refine W_guard_yes rfl ?_
             refine W_move rfl rfl ?_
             refine W_nil ?_
             exact N_step rfl rfl (Below.refl _ _)
            ·
             intro w96 vq96 hB96 hH96
             have hS96 := hS17.below hB96
             refine W_guard_yes rfl ?_
             refine W_ix rfl Go.Proofs.Try.underlying49 Ty.cells37 Ty.info37 rfl rfl (he90.el hS96.agree) hp90 rfl ?_
             refine W_nil ?_
             exact N_step rfl rfl (Below.refl _ _)
            ·
             intro w97 vq97 hB97 hH97
             have hS97 := hS17.below hB97
             refine W_guard_yes rfl ?_
             refine W_ldg 0 ((Loc.cells x19)) rfl Ty.agg37 Ty.size37 rfl (he90.el hS97.agree) (by omega) (fun q u h => sub_at (post := []) rfl h) ?_
             refine W_nil ?_
             exact N_step rfl rfl (Below.refl _ _)
            ·
             intro w98 vq98 hB98 hH98
             have hS98 := hS17.below hB98
             refine W_guard_yes rfl ?_
             refine W_move rfl rfl ?_
             refine W_nil ?_
             exact N_step rfl rfl (Below.refl _ _)
            ·
             intro w99 vq99 hB99 hH99
             have hS99 := hS17.below hB99
             refine W_guard_yes rfl ?_
             refine W_move rfl rfl ?_
             refine W_nil ?_
             exact N_step rfl rfl (Below.refl _ _)
            ·
             intro w100 vq100 hB100 hH100
             have hS100 := hS17.below hB100
             refine W_guard_yes rfl ?_
             refine W_ix rfl Go.Proofs.Try.underlying49 Ty.cells37 Ty.info37 rfl rfl (he90.el hS100.agree) hp90 rfl ?_
             refine W_nil ?_
             exact N_step rfl rfl (Below.refl _ _)
            ·
             intro w101 vq101 hB101 hH101
             have hS101 := hS17.below hB101
             refine W_guard_yes rfl ?_
             refine W_ldg 0 ((Loc.cells x19)) rfl Ty.agg37 Ty.size37 rfl (he90.el hS101.agree) (by omega) (fun q u h => sub_at (post := []) rfl h) ?_
             refine W_nil ?_
             exact N_step rfl rfl (Below.refl _ _)
            ·
             intro w102 vq102 hB102 hH102
             have hS102 := hS17.below hB102
             refine W_guard_yes rfl ?_
             have hy103 := hr21
             rw [only_t (by first | rfl | (rw [hb34]; first | done | rfl) | simp [hb34, hb88])] at hy103
             refine W_call rfl Ty.named31 rfl (plan_Ahead_ok hS102.agree hy103) ?_
             rintro v104 w104 ⟨Fr21, rfl, hT104⟩
             have hS104 := hS102.lent hT104
             refine W_nil ?_
             exact N_step rfl rfl hT104.below0
            ·
             intro w105 vq105 hB105 hH105
             have hS105 := hS17.below hB105
             refine W_pick_f rfl rfl rfl ?_
             refine W_nil ?_
             exact N_step rfl rfl (Below.refl _ _)
            ·
             intro w106 vq106 hB106 hH106
             have hS106 := hS17.below hB106
             refine W_move rfl rfl ?_
             refine W_nil ?_
             exact N_step rfl (congrArg Value.bool hb88) (Below.refl _ _)
            ·
             intro w107 vq107 hB107 hH107
             have hS107 := hS17.below hB107
             refine W_guard_no rfl rfl rfl rfl rfl ?_
             refine W_nil ?_
             exact N_step rfl rfl (Below.refl _ _)
            ·
             intro w108 vq108 hB108 hH108
             have hS108 := hS17.below hB108
             refine W_guard_no rfl rfl rfl rfl rfl ?_
             refine W_nil ?_
             exact N_step rfl rfl (Below.refl _ _)
            ·
             intro w109 vq109 hB109 hH109
             have hS109 := hS17.below hB109
             refine W_guard_no rfl rfl rfl rfl rfl ?_
             refine W_nil ?_
             exact N_step rfl rfl (Below.refl _ _)
            ·
             intro w110 vq110 hB110 hH110
             have hS110 := hS17.below hB110
             refine W_guard_un rfl rfl rfl rfl ?_
             refine W_nil ?_
             exact N_step rfl rfl (Below.refl _ _)
            ·
             intro w111 vq111 hB111 hH111
             have hS111 := hS17.below hB111
             refine W_guard_un rfl rfl rfl rfl ?_
             refine W_nil ?_
             exact N_step rfl rfl (Below.refl _ _)
            ·
             intro w112 vq112 hB112 hH112
             have hS112 := hS17.below hB112
             refine W_guard_un rfl rfl rfl rfl ?_
             refine W_nil ?_
             exact N_step rfl rfl (Below.refl _ _)
            ·
             intro w113 vq113 hB113 hH113
             have hS113 := hS17.below hB113
             refine W_guard_un rfl rfl rfl rfl ?_
             refine W_nil ?_
             exact N_step rfl rfl (Below.refl _ _)
            ·
             intro w114 vq114 hB114 hH114
             have hS114 := hS17.below hB114
             refine W_guard_un rfl rfl rfl rfl ?_
             refine W_nil ?_
             exact N_step rfl rfl (Below.refl _ _)
            ·
             intro w115 vq115 hB115 hH115
             have hS115 := hS17.below hB115
             refine W_guard_un rfl rfl rfl rfl ?_
             refine W_nil ?_
             exact N_step rfl rfl (Below.refl _ _)
            ·
             intro w116 vq116 hB116 hH116
             have hS116 := hS17.below hB116
             refine W_guard_un rfl rfl rfl rfl ?_
             refine W_nil ?_
             exact N_step rfl rfl (Below.refl _ _)
            ·
             intro w117 vq117 hB117 hH117
             have hS117 := hS17.below hB117
             refine W_guard_un rfl rfl rfl rfl ?_
             refine W_nil ?_
             exact N_step rfl rfl (Below.refl _ _)
            ·
             intro w118 vq118 hB118 hH118
             have hS118 := hS17.below hB118
             refine W_guard_un rfl rfl rfl rfl ?_
             refine W_nil ?_
             exact N_step rfl rfl (Below.refl _ _)
            ·
             intro w119 vq119 hB119 hH119
             have hS119 := hS17.below hB119
             refine W_guard_un rfl rfl rfl rfl ?_
             refine W_nil ?_
             exact N_step rfl rfl (Below.refl _ _)
            ·
             intro w120 vq120 hB120 hH120
             have hS120 := hS17.below hB120
             refine W_guard_un rfl rfl rfl rfl ?_
             refine W_nil ?_
             exact N_step rfl rfl (Below.refl _ _)
            ·
             intro w121 vq121 hB121 hH121
             have hS121 := hS17.below hB121
             refine W_guard_un rfl rfl rfl rfl ?_
             refine W_nil ?_
             exact N_step rfl rfl (Below.refl _ _)
            ·
             intro w122 vq122 hB122 hH122
             have hS122 := hS17.below hB122
             refine W_guard_un rfl rfl rfl rfl ?_
             refine W_nil ?_
             exact N_step rfl rfl (Below.refl _ _)
            ·
             intro w123 vq123 hB123 hH123
             have hS123 := hS17.below hB123
             refine W_guard_un rfl rfl rfl rfl ?_
             refine W_nil ?_
             exact N_step rfl rfl (Below.refl _ _)
            ·
             intro w124 vq124 hB124 hH124
             have hS124 := hS17.below hB124
             refine W_guard_un rfl rfl rfl rfl ?_
             refine W_nil ?_
             exact N_step rfl rfl (Below.refl _ _)
            ·
             intro w125 vq125 hB125 hH125
             have hS125 := hS17.below hB125
             refine W_guard_un rfl rfl rfl rfl ?_
             refine W_nil ?_
             exact N_step rfl rfl (Below.refl _ _)
            ·
             intro w126 vq126 hB126 hH126
             have hS126 := hS17.below hB126
             refine W_guard_un rfl rfl rfl rfl ?_
             refine W_nil ?_
             exact N_step rfl rfl (Below.refl _ _)
            ·
             intro w127 vq127 hB127 hH127
             have hS127 := hS17.below hB127
             refine W_guard_un rfl rfl rfl rfl ?_
             refine W_nil ?_
             exact N_step rfl rfl (Below.refl _ _)
            ·
             intro w128 vq128 hB128 hH128
             have hS128 := hS17.below hB128
             refine W_guard_un rfl rfl rfl rfl ?_
             refine W_nil ?_
             exact N_step rfl rfl (Below.refl _ _)
            ·
             intro w129 vq129 hB129 hH129
             have hS129 := hS17.below hB129
             refine W_guard_un rfl rfl rfl rfl ?_
             refine W_nil ?_
             exact N_step rfl rfl (Below.refl _ _)
            ·
             intro w130 vq130 hB130 hH130
             have hS130 := hS17.below hB130
             refine W_guard_un rfl rfl rfl rfl ?_
             refine W_nil ?_
             exact N_step rfl rfl (Below.refl _ _)
            ·
             intro w131 vq131 hB131 hH131
             have hS131 := hS17.below hB131
             refine W_guard_no rfl rfl rfl rfl rfl ?_
             refine W_nil ?_
             exact N_step rfl rfl (Below.refl _ _)
            ·
             intro w132 vq132 hB132 hH132
             have hS132 := hS17.below hB132
             refine W_guard_no rfl rfl rfl rfl rfl ?_
             refine W_nil ?_
             exact N_step rfl rfl (Below.refl _ _)
            ·
             intro w133 vq133 hB133 hH133
             have hS133 := hS17.below hB133
             refine W_guard_un rfl rfl rfl rfl ?_
             refine W_nil ?_
             exact N_step rfl rfl (Below.refl _ _)
            ·
             intro w134 vq134 hB134 hH134
             have hS134 := hS17.below hB134
             refine W_guard_un rfl rfl rfl rfl ?_
             refine W_nil ?_
             exact N_step rfl rfl (Below.refl _ _)
            ·
             intro w135 vq135 hB135 hH135
             have hS135 := hS17.below hB135
             refine W_guard_un rfl rfl rfl rfl ?_
             refine W_nil ?_
             exact N_step rfl rfl (Below.refl _ _)
            ·
             intro w136 vq136 hB136 hH136
             have hS136 := hS17.below hB136
             refine W_guard_un rfl rfl rfl rfl ?_
             refine W_nil ?_
             exact N_step rfl rfl (Below.refl _ _)
            ·
             intro w137 vq137 hB137 hH137
             have hS137 := hS17.below hB137
             refine W_guard_un rfl rfl rfl rfl ?_
             refine W_nil ?_
             exact N_step rfl rfl (Below.refl _ _)
            ·
             intro w138 vq138 hB138 hH138
             have hS138 := hS17.below hB138
             refine W_guard_un rfl rfl rfl rfl ?_
             refine W_nil ?_
             exact N_step rfl rfl (Below.refl _ _)
            ·
             intro w139 vq139 hB139 hH139
             have hS139 := hS17.below hB139
             refine W_guard_un rfl rfl rfl rfl ?_
             refine W_nil ?_
             exact N_step rfl rfl (Below.refl _ _)
            ·
             intro w140 vq140 hB140 hH140
             have hS140 := hS17.below hB140
             refine W_guard_un rfl rfl rfl rfl ?_
             refine W_nil ?_
             exact N_step rfl rfl (Below.refl _ _)
            ·
             intro w141 vq141 hB141 hH141
             have hS141 := hS17.below hB141
             refine W_guard_un rfl rfl rfl rfl ?_
             refine W_nil ?_
             exact N_step rfl rfl (Below.refl _ _)
            ·
             intro w142 vq142 hB142 hH142
             have hS142 := hS17.below hB142
             refine W_guard_un rfl rfl rfl rfl ?_
             refine W_nil ?_
             exact N_step rfl rfl (Below.refl _ _)
            ·
             intro w143 vq143 hB143 hH143
             have hS143 := hS17.below hB143
             refine W_guard_un rfl rfl rfl rfl ?_
             refine W_nil ?_
             exact N_step rfl rfl (Below.refl _ _)
            ·
             intro w144 vq144 hB144 hH144
             have hS144 := hS17.below hB144
             refine W_guard_no rfl rfl rfl rfl rfl ?_
             refine W_nil ?_
             exact N_step rfl rfl (Below.refl _ _)
           intro w145 vq145 hB145 hH145
           have hS145 := hS17.below hB145
           refine W_pick_t rfl rfl rfl ?_
           refine W_nil ?_
           exact N_join _ ⟨rfl, F17, (Frz.le.refl _), hS145⟩ ⟨rfl, rfl, rfl, (look_bool rfl (by first | rfl | (rw [hb34, hb88]; first | done | rfl) | simp [hb34, hb88])), trivial⟩
          ·
           rcases Bool.eq_false_or_eq_true (decide (0 < i13)) with hb146 | hb146
           ·
            rcases Bool.eq_false_or_eq_true (r26 == r27) with hb147 | hb147
            ·
             have hy148 := hx19
             rw [only_t (by first | rfl | (rw [hb34]; first | done | rfl) | simp [hb34, hb88, hb146, hb147])] at hy148
             obtain ⟨hp149, hy149⟩ := ix_some hy148
             obtain ⟨cs149, hr149, he149⟩ := (h0.mono (((ler2.trans le4).trans le12).trans le17)).at_ hy149
             obtain rfl := hr149
             replace he149 : Elf _ _ 4 _ _ := he149
             have hy150 := hx22
             rw [only_t (by first | rfl | (rw [hb146, hb34, hb88]; first | done | rfl) | simp [hb34, hb88, hb146, hb147])] at hy150
             obtain ⟨hp151, hy151⟩ := ix_some hy150
             obtain ⟨cs151, hr151, he151⟩ := (h0.mono (((ler2.trans le4).trans le12).trans le17)).at_ hy151
             obtain rfl := hr151
             replace he151 : Elf _ _ 4 _ _ := he151
             have hy152 := hx24
             rw [only_t (by first | rfl | (rw [hb146, hb34, hb88]; first | done | rfl) | simp [hb34, hb88, hb146, hb147])] at hy152
             obtain ⟨hp153, hy153⟩ := ix_some hy152
             obtain ⟨cs153, hr153, he153⟩ := (h0.mono (((ler2.trans le4).trans le12).trans le17)).at_ hy153
             obtain rfl := hr153
             replace he153 : Elf _ _ 4 _ _ := he153
             have hy154 := hx28
             rw [only_t (by first | rfl | (rw [hb146, hb147, hb34, hb88]; first | done | rfl) | simp [hb34, hb88, hb146, hb147])] at hy154
             obtain ⟨hp155, hy155⟩ := ix_some hy154
             obtain ⟨cs155, hr155, he155⟩ := (h0.mono (((ler2.trans le4).trans le12).trans le17)).at_ hy155
             obtain rfl := hr155
             replace he155 : Elf _ _ 4 _ _ := he155
             have hy156 := hx30
             rw [only_t (by first | rfl | (rw [hb146, hb147, hb34, hb88]; first | done | rfl) | simp [hb34, hb88, hb146, hb147])] at hy156
             obtain ⟨hp157, hy157⟩ := ix_some hy156
             obtain ⟨cs157, hr157, he157⟩ := (h0.mono (((ler2.trans le4).trans le12).trans le17)).at_ hy157
             obtain rfl := hr157
             replace he157 : Elf _ _ 4 _ _ := he157
             apply C_draw 52 [[], [0], [1], [2], [2], [3, 4, 2], [5, 2], [2], [2], [7, 8, 2], [9, 2], [6, 10, 2], [2, 11], [12], [13], [14, 13], [15, 13], [16], [16], [17, 18, 16], [19, 16], [16], [16], [22, 16], [21, 23, 16], [24, 16], [20, 25, 16], [16], [16], [28, 16], [27, 29, 16], [30, 16], [16], [16], [32, 33, 16], [34, 16], [31, 35, 16], [26, 36, 16], [16, 37, 13], [38, 13], [39], [39], [40, 41, 39], [42, 39], [39], [39], [45, 39], [44, 46, 39], [47, 39], [43, 48, 39], [49, 39], [39, 50, 13]] [.val (.bool b18), .val (.bool (!b18)), .val (.bool false), .val (v0), .val (.int .i64 i13), .val (elp v0 (i13.toNat * 4)), .val (.agg (Loc.cells x19).toArray), .val (v0), .val (.int .i64 i13), .val (elp v0 (i13.toNat * 4)), .val (.agg (Loc.cells x19).toArray), .val (.bool r21), .val (.bool r21), .val (.bool false), .val (.int .i64 i13), .val (.bool (decide (0 < i13))), .val (.bool true), .val (v0), .val (.int .i64 i13), .val (elp v0 (i13.toNat * 4)), .val (.agg (Loc.cells x22).toArray), .val (v0), .val (.int .i64 i13), .val (.int .i64 (wr (i13 - 1))), .val (elp v0 ((wr (i13 - 1)).toNat * 4)), .val (.agg (Loc.cells x24).toArray), .val (.bool r26), .val (v0), .val (.int .i64 i13), .val (.int .i64 (wr (i13 - 1))), .val (elp v0 ((wr (i13 - 1)).toNat * 4)), .val (.agg (Loc.cells x24).toArray), .val (v0), .val (.int .i64 i13), .val (elp v0 (i13.toNat * 4)), .val (.agg (Loc.cells x22).toArray), .val (.bool r27), .val (.bool (r26 == r27)), .val (.bool (r26 == r27)), .val (.bool true), .val (v0), .val (.int .i64 i13), .val (elp v0 (i13.toNat * 4)), .val (.agg (Loc.cells x28).toArray), .val (v0), .val (.int .i64 i13), .val (.int .i64 (wr (i13 - 1))), .val (elp v0 ((wr (i13 - 1)).toNat * 4)), .val (.agg (Loc.cells x30).toArray), .val (.bool r32), .val (.bool (!r32)), .val (.bool (!r32))] Ty.mixed rfl rfl (by kernel_rfl) (by kernel_rfl) rfl
             ·
              refine ⟨?_, ?_, ?_, ?_, ?_, ?_, ?_, ?_, ?_, ?_, ?_, ?_, ?_, ?_, ?_, ?_, ?_, ?_, ?_, ?_, ?_, ?_, ?_, ?_, ?_, ?_, ?_, ?_, ?_, ?_, ?_, ?_, ?_, ?_, ?_, ?_, ?_, ?_, ?_, ?_, ?_, ?_, ?_, ?_, ?_, ?_, ?_, ?_, ?_, ?_, ?_, ?_, trivial⟩
              ·
               intro w158 vq158 hB158 hH158
               have hS158 := hS17.below hB158
               refine W_move rfl rfl ?_
               refine W_nil ?_
               exact N_step rfl rfl (Below.refl _ _)
              ·
               intro w159 vq159 hB159 hH159
               have hS159 := hS17.below hB159
               refine W_not rfl rfl ?_
               refine W_nil ?_
               exact N_step rfl rfl (Below.refl _ _)
              ·
               intro w160 vq160 hB160 hH160
               have hS160 := hS17.below hB160
               refine W_move rfl rfl ?_
               refine W_nil ?_
               exact N_step rfl (congrArg Value.bool hb34) (Below.refl _ _)
              ·
               intro w161 vq161 hB161 hH161
               have hS161 := hS17.below hB161
               refine W_guard_yes rfl ?_
               refine W_move rfl rfl ?_
               refine W_nil ?_
               exact N_step rfl rfl (Below.refl _ _)
              ·
               intro w162 vq162 hB162 hH162
               have hS162 := hS17.below hB162
               refine W_guard_yes rfl ?_
               refine W_move rfl rfl ?_
               refine W_nil ?_
               exact N_step rfl rfl (Below.refl _ _)
              ·
               intro w163 vq163 hB163 hH163
               have hS163 := hS17.below hB163
               refine W_guard_yes rfl ?_
               refine W_ix rfl Go.Proofs.Try.underlying49 Ty.cells37 Ty.info37 rfl rfl (he149.el hS163.agree) hp149 rfl ?_
               refine W_nil ?_
               exact N_step rfl rfl (Below.refl _ _)
              ·
               intro w164 vq164 hB164 hH164
               have hS164 := hS17.below hB164
               refine W_guard_yes rfl ?_
               refine W_ldg 0 ((Loc.cells x19)) rfl Ty.agg37 Ty.size37 rfl (he149.el hS164.agree) (by omega) (fun q u h => sub_at (post := []) rfl h) ?_
               refine W_nil ?_
               exact N_step rfl rfl (Below.refl _ _)
              ·
               intro w165 vq165 hB165 hH165
               have hS165 := hS17.below hB165
               refine W_guard_yes rfl ?_
               refine W_move rfl rfl ?_
               refine W_nil ?_
               exact N_step rfl rfl (Below.refl _ _)
              ·
               intro w166 vq166 hB166 hH166
               have hS166 := hS17.below hB166
               refine W_guard_yes rfl ?_
               refine W_move rfl rfl ?_
               refine W_nil ?_
               exact N_step rfl rfl (Below.refl _ _)
              ·
               intro w167 vq167 hB167 hH167
               have hS167 := hS17.below hB167
               refine W_guard_yes rfl ?_
               refine W_ix rfl Go.Proofs.Try.underlying49 Ty.cells37 Ty.info37 rfl rfl (he149.el hS167.agree) hp149 rfl ?_
               refine W_nil ?_
               exact N_step rfl rfl (Below.refl _ _)
              ·
               intro w168 vq168 hB168 hH168
               have hS168 := hS17.below hB168
               refine W_guard_yes rfl ?_
               refine W_ldg 0 ((Loc.cells x19)) rfl Ty.agg37 Ty.size37 rfl (he149.el hS168.agree) (by omega) (fun q u h => sub_at (post := []) rfl h) ?_
               refine W_nil ?_
               exact N_step rfl rfl (Below.refl _ _)
              ·
               intro w169 vq169 hB169 hH169
               have hS169 := hS17.below hB169
               refine W_guard_yes rfl ?_
               have hy170 := hr21
               rw [only_t (by first | rfl | (rw [hb34]; first | done | rfl) | simp [hb34, hb88, hb146, hb147])] at hy170
               refine W_call rfl Ty.named31 rfl (plan_Ahead_ok hS169.agree hy170) ?_
               rintro v171 w171 ⟨Fr21, rfl, hT171⟩
               have hS171 := hS169.lent hT171
               refine W_nil ?_
               exact N_step rfl rfl hT171.below0
              ·
               intro w172 vq172 hB172 hH172
               have hS172 := hS17.below hB172
               refine W_pick_f rfl rfl rfl ?_
               refine W_nil ?_
               exact N_step rfl rfl (Below.refl _ _)
              ·
               intro w173 vq173 hB173 hH173
               have hS173 := hS17.below hB173
               refine W_move rfl rfl ?_
               refine W_nil ?_
               exact N_step rfl (congrArg Value.bool hb88) (Below.refl _ _)
              ·
               intro w174 vq174 hB174 hH174
               have hS174 := hS17.below hB174
               refine W_guard_yes rfl ?_
               refine W_move rfl rfl ?_
               refine W_nil ?_
               exact N_step rfl rfl (Below.refl _ _)
              ·
               intro w175 vq175 hB175 hH175
               have hS175 := hS17.below hB175
               refine W_guard_yes rfl ?_
               refine W_gtr rfl rfl rfl ?_
               refine W_nil ?_
               exact N_step rfl rfl (Below.refl _ _)
              ·
               intro w176 vq176 hB176 hH176
               have hS176 := hS17.below hB176
               refine W_guard_yes rfl ?_
               refine W_move rfl rfl ?_
               refine W_nil ?_
               exact N_step rfl (congrArg Value.bool hb146) (Below.refl _ _)
              ·
               intro w177 vq177 hB177 hH177
               have hS177 := hS17.below hB177
               refine W_guard_yes rfl ?_
               refine W_move rfl rfl ?_
               refine W_nil ?_
               exact N_step rfl rfl (Below.refl _ _)
              ·
               intro w178 vq178 hB178 hH178
               have hS178 := hS17.below hB178
               refine W_guard_yes rfl ?_
               refine W_move rfl rfl ?_
               refine W_nil ?_
               exact N_step rfl rfl (Below.refl _ _)
              ·
               intro w179 vq179 hB179 hH179
               have hS179 := hS17.below hB179
               refine W_guard_yes rfl ?_
               refine W_ix rfl Go.Proofs.Try.underlying49 Ty.cells37 Ty.info37 rfl rfl (he151.el hS179.agree) hp151 rfl ?_
               refine W_nil ?_
               exact N_step rfl rfl (Below.refl _ _)
              ·
               intro w180 vq180 hB180 hH180
               have hS180 := hS17.below hB180
               refine W_guard_yes rfl ?_
               refine W_ldg 0 ((Loc.cells x22)) rfl Ty.agg37 Ty.size37 rfl (he151.el hS180.agree) (by omega) (fun q u h => sub_at (post := []) rfl h) ?_
               refine W_nil ?_
               exact N_step rfl rfl (Below.refl _ _)
              ·
               intro w181 vq181 hB181 hH181
               have hS181 := hS17.below hB181
               refine W_guard_yes rfl ?_
               refine W_move rfl rfl ?_
               refine W_nil ?_
               exact N_step rfl rfl (Below.refl _ _)
              ·
               intro w182 vq182 hB182 hH182
               have hS182 := hS17.below hB182
               refine W_guard_yes rfl ?_
               refine W_move rfl rfl ?_
               refine W_nil ?_
               exact N_step rfl rfl (Below.refl _ _)
              ·
               intro w183 vq183 hB183 hH183
               have hS183 := hS17.below hB183
               refine W_guard_yes rfl ?_
               refine W_subi rfl rfl rfl rfl ?_
               refine W_nil ?_
               exact N_step rfl rfl (Below.refl _ _)
              ·
               intro w184 vq184 hB184 hH184
               have hS184 := hS17.below hB184
               refine W_guard_yes rfl ?_
               refine W_ix rfl Go.Proofs.Try.underlying49 Ty.cells37 Ty.info37 rfl rfl (he153.el hS184.agree) hp153 rfl ?_
               refine W_nil ?_
               exact N_step rfl rfl (Below.refl _ _)
              ·
               intro w185 vq185 hB185 hH185
               have hS185 := hS17.below hB185
               refine W_guard_yes rfl ?_
               refine W_ldg 0 ((Loc.cells x24)) rfl Ty.agg37 Ty.size37 rfl (he153.el hS185.agree) (by omega) (fun q u h => sub_at (post := []) rfl h) ?_
               refine W_nil ?_
               exact N_step rfl rfl (Below.refl _ _)
              ·
               intro w186 vq186 hB186 hH186
               have hS186 := hS17.below hB186
               refine W_guard_yes rfl ?_
               have hy187 := hr26
               rw [only_t (by first | rfl | (rw [hb146, hb34, hb88]; first | done | rfl) | simp [hb34, hb88, hb146, hb147])] at hy187
               refine W_call rfl Ty.named31 rfl (plan_Ahead_ok hS186.agree hy187) ?_
               rintro v188 w188 ⟨Fr26, rfl, hT188⟩
               have hS188 := hS186.lent hT188
               refine W_nil ?_
               exact N_step rfl rfl hT188.below0
              ·
               intro w189 vq189 hB189 hH189
               have hS189 := hS17.below hB189
               refine W_guard_yes rfl ?_
               refine W_move rfl rfl ?_
               refine W_nil ?_
               exact N_step rfl rfl (Below.refl _ _)
              ·
               intro w190 vq190 hB190 hH190
               have hS190 := hS17.below hB190
               refine W_guard_yes rfl ?_
               refine W_move rfl rfl ?_
               refine W_nil ?_
               exact N_step rfl rfl (Below.refl _ _)
              ·
               intro w191 vq191 hB191 hH191
               have hS191 := hS17.below hB191
               refine W_guard_yes rfl ?_
               refine W_subi rfl rfl rfl rfl ?_
               refine W_nil ?_
               exact N_step rfl rfl (Below.refl _ _)
              ·
               intro w192 vq192 hB192 hH192
               have hS192 := hS17.below hB192
               refine W_guard_yes rfl ?_
               refine W_ix rfl Go.Proofs.Try.underlying49 Ty.cells37 Ty.info37 rfl rfl (he153.el hS192.agree) hp153 rfl ?_
               refine W_nil ?_
               exact N_step rfl rfl (Below.refl _ _)
              ·
               intro w193 vq193 hB193 hH193
               have hS193 := hS17.below hB193
               refine W_guard_yes rfl ?_
               refine W_ldg 0 ((Loc.cells x24)) rfl Ty.agg37 Ty.size37 rfl (he153.el hS193.agree) (by omega) (fun q u h => sub_at (post := []) rfl h) ?_
               refine W_nil ?_
               exact N_step rfl rfl (Below.refl _ _)
              ·
               intro w194 vq194 hB194 hH194
               have hS194 := hS17.below hB194
               refine W_guard_yes rfl ?_
               refine W_move rfl rfl ?_
               refine W_nil ?_
               exact N_step rfl rfl (Below.refl _ _)
              ·
               intro w195 vq195 hB195 hH195
               have hS195 := hS17.below hB195
               refine W_guard_yes rfl ?_
               refine W_move rfl rfl ?_
               refine W_nil ?_
               exact N_step rfl rfl (Below.refl _ _)
              ·
               intro w196 vq196 hB196 hH196
               have hS196 := hS17.below hB196
               refine W_guard_yes rfl ?_
               refine W_ix rfl Go.Proofs.Try.underlying49 Ty.cells37 Ty.info37 rfl rfl (he151.el hS196.agree) hp151 rfl ?_
               refine W_nil ?_
               exact N_step rfl rfl (Below.refl _ _)
              ·
               intro w197 vq197 hB197 hH197
               have hS197 := hS17.below hB197
               refine W_guard_yes rfl ?_
               refine W_ldg 0 ((Loc.cells x22)) rfl Ty.agg37 Ty.size37 rfl (he151.el hS197.agree) (by omega) (fun q u h => sub_at (post := []) rfl h) ?_
               refine W_nil ?_
               exact N_step rfl rfl (Below.refl _ _)
              ·
               intro w198 vq198 hB198 hH198
               have hS198 := hS17.below hB198
               refine W_guard_yes rfl ?_
               have hy199 := hr27
               rw [only_t (by first | rfl | (rw [hb146, hb34, hb88]; first | done | rfl) | simp [hb34, hb88, hb146, hb147])] at hy199
               refine W_call rfl Ty.named31 rfl (plan_Ahead_ok hS198.agree hy199) ?_
               rintro v200 w200 ⟨Fr27, rfl, hT200⟩
               have hS200 := hS198.lent hT200
               refine W_nil ?_
               exact N_step rfl rfl hT200.below0
              ·
               intro w201 vq201 hB201 hH201
               have hS201 := hS17.below hB201
               refine W_guard_yes rfl ?_
               refine W_eqlb rfl Go.Proofs.Try.underlying4 rfl rfl ?_
               refine W_nil ?_
               exact N_step rfl rfl (Below.refl _ _)
              ·
               intro w202 vq202 hB202 hH202
               have hS202 := hS17.below hB202
               refine W_guard_yes rfl ?_
               refine W_pick_t rfl rfl rfl ?_
               refine W_nil ?_
               exact N_step rfl rfl (Below.refl _ _)
              ·
               intro w203 vq203 hB203 hH203
               have hS203 := hS17.below hB203
               refine W_guard_yes rfl ?_
               refine W_move rfl rfl ?_
               refine W_nil ?_
               exact N_step rfl (congrArg Value.bool hb147) (Below.refl _ _)
              ·
               intro w204 vq204 hB204 hH204
               have hS204 := hS17.below hB204
               refine W_guard_yes rfl ?_
               refine W_move rfl rfl ?_
               refine W_nil ?_
               exact N_step rfl rfl (Below.refl _ _)
              ·
               intro w205 vq205 hB205 hH205
               have hS205 := hS17.below hB205
               refine W_guard_yes rfl ?_
               refine W_move rfl rfl ?_
               refine W_nil ?_
               exact N_step rfl rfl (Below.refl _ _)
              ·
               intro w206 vq206 hB206 hH206
               have hS206 := hS17.below hB206
               refine W_guard_yes rfl ?_
               refine W_ix rfl Go.Proofs.Try.underlying49 Ty.cells37 Ty.info37 rfl rfl (he155.el hS206.agree) hp155 rfl ?_
               refine W_nil ?_
               exact N_step rfl rfl (Below.refl _ _)
              ·
               intro w207 vq207 hB207 hH207
               have hS207 := hS17.below hB207
               refine W_guard_yes rfl ?_
               refine W_ldg 0 ((Loc.cells x28)) rfl Ty.agg37 Ty.size37 rfl (he155.el hS207.agree) (by omega) (fun q u h => sub_at (post := []) rfl h) ?_
               refine W_nil ?_
               exact N_step rfl rfl (Below.refl _ _)
              ·
               intro w208 vq208 hB208 hH208
               have hS208 := hS17.below hB208
               refine W_guard_yes rfl ?_
               refine W_move rfl rfl ?_
               refine W_nil ?_
               exact N_step rfl rfl (Below.refl _ _)
              ·
               intro w209 vq209 hB209 hH209
               have hS209 := hS17.below hB209
               refine W_guard_yes rfl ?_
               refine W_move rfl rfl ?_
               refine W_nil ?_
               exact N_step rfl rfl (Below.refl _ _)
              ·
               intro w210 vq210 hB210 hH210
               have hS210 := hS17.below hB210
               refine W_guard_yes rfl ?_
               refine W_subi rfl rfl rfl rfl ?_
               refine W_nil ?_
               exact N_step rfl rfl (Below.refl _ _)
              ·
               intro w211 vq211 hB211 hH211
               have hS211 := hS17.below hB211
               refine W_guard_yes rfl ?_
               refine W_ix rfl Go.Proofs.Try.underlying49 Ty.cells37 Ty.info37 rfl rfl (he157.el hS211.agree) hp157 rfl ?_
               refine W_nil ?_
               exact N_step rfl rfl (Below.refl _ _)
              ·
               intro w212 vq212 hB212 hH212
               have hS212 := hS17.below hB212
               refine W_guard_yes rfl ?_
               refine W_ldg 0 ((Loc.cells x30)) rfl Ty.agg37 Ty.size37 rfl (he157.el hS212.agree) (by omega) (fun q u h => sub_at (post := []) rfl h) ?_
               refine W_nil ?_
               exact N_step rfl rfl (Below.refl _ _)
              ·
               intro w213 vq213 hB213 hH213
               have hS213 := hS17.below hB213
               refine W_guard_yes rfl ?_
               have hy214 := hr32
               rw [only_t (by first | rfl | (rw [hb146, hb147, hb34, hb88]; first | done | rfl) | simp [hb34, hb88, hb146, hb147])] at hy214
               refine W_call rfl Ty.named24 rfl (cellarerkeep_Loc_ok hS213.agree hy214) ?_
               rintro v215 w215 ⟨Fr32, rfl, hT215⟩
               have hS215 := hS213.lent hT215
               refine W_nil ?_
               exact N_step rfl rfl hT215.below0
              ·
               intro w216 vq216 hB216 hH216
               have hS216 := hS17.below hB216
               refine W_guard_yes rfl ?_
               refine W_not rfl rfl ?_
               refine W_nil ?_
               exact N_step rfl rfl (Below.refl _ _)
              ·
               intro w217 vq217 hB217 hH217
               have hS217 := hS17.below hB217
               refine W_guard_yes rfl ?_
               refine W_pick_t rfl rfl rfl ?_
               refine W_nil ?_
               exact N_step rfl rfl (Below.refl _ _)
             intro w218 vq218 hB218 hH218
             have hS218 := hS17.below hB218
             refine W_pick_f rfl rfl rfl ?_
             refine W_nil ?_
             exact N_join _ ⟨rfl, F17, (Frz.le.refl _), hS218⟩ ⟨rfl, rfl, rfl, (look_bool rfl (by first | rfl | (rw [hb146, hb147, hb34, hb88]; first | done | rfl) | simp [hb34, hb88, hb146, hb147])), trivial⟩
            ·
             have hy219 := hx19
             rw [only_t (by first | rfl | (rw [hb34]; first | done | rfl) | simp [hb34, hb88, hb146, hb147])] at hy219
             obtain ⟨hp220, hy220⟩ := ix_some hy219
             obtain ⟨cs220, hr220, he220⟩ := (h0.mono (((ler2.trans le4).trans le12).trans le17)).at_ hy220
             obtain rfl := hr220
             replace he220 : Elf _ _ 4 _ _ := he220
             have hy221 := hx22
             rw [only_t (by first | rfl | (rw [hb146, hb34, hb88]; first | done | rfl) | simp [hb34, hb88, hb146, hb147])] at hy221
             obtain ⟨hp222, hy222⟩ := ix_some hy221
             obtain ⟨cs222, hr222, he222⟩ := (h0.mono (((ler2.trans le4).trans le12).trans le17)).at_ hy222
             obtain rfl := hr222
             replace he222 : Elf _ _ 4 _ _ := he222
             have hy223 := hx24
             rw [only_t (by first | rfl | (rw [hb146, hb34, hb88]; first | done | rfl) | simp [hb34, hb88, hb146, hb147])] at hy223
             obtain ⟨hp224, hy224⟩ := ix_some hy223
             obtain ⟨cs224, hr224, he224⟩ := (h0.mono (((ler2.trans le4).trans le12).trans le17)).at_ hy224
             obtain rfl := hr224
             replace he224 : Elf _ _ 4 _ _ := he224
             apply C_draw 52 [[], [0], [1], [2], [2], [3, 4, 2], [5, 2], [2], [2], [7, 8, 2], [9, 2], [6, 10, 2], [2, 11], [12], [13], [14, 13], [15, 13], [16], [16], [17, 18, 16], [19, 16], [16], [16], [22, 16], [21, 23, 16], [24, 16], [20, 25, 16], [16], [16], [28, 16], [27, 29, 16], [30, 16], [16], [16], [32, 33, 16], [34, 16], [31, 35, 16], [26, 36, 16], [16, 37, 13], [38, 13], [39], [39], [40, 41, 39], [42, 39], [39], [39], [45, 39], [44, 46, 39], [47, 39], [43, 48, 39], [49, 39], [39, 50, 13]] [.val (.bool b18), .val (.bool (!b18)), .val (.bool false), .val (v0), .val (.int .i64 i13), .val (elp v0 (i13.toNat * 4)), .val (.agg (Loc.cells x19).toArray), .val (v0), .val (.int .i64 i13), .val (elp v0 (i13.toNat * 4)), .val (.agg (Loc.cells x19).toArray), .val (.bool r21), .val (.bool r21), .val (.bool false), .val (.int .i64 i13), .val (.bool (decide (0 < i13))), .val (.bool true), .val (v0), .val (.int .i64 i13), .val (elp v0 (i13.toNat * 4)), .val (.agg (Loc.cells x22).toArray), .val (v0), .val (.int .i64 i13), .val (.int .i64 (wr (i13 - 1))), .val (elp v0 ((wr (i13 - 1)).toNat * 4)), .val (.agg (Loc.cells x24).toArray), .val (.bool r26), .val (v0), .val (.int .i64 i13), .val (.int .i64 (wr (i13 - 1))), .val (elp v0 ((wr (i13 - 1)).toNat * 4)), .val (.agg (Loc.cells x24).toArray), .val (v0), .val (.int .i64 i13), .val (elp v0 (i13.toNat * 4)), .val (.agg (Loc.cells x22).toArray), .val (.bool r27), .val (.bool (r26 == r27)), .val (.bool (r26 == r27)), .val (.bool false), .val undef, .val undef, .val undef, .val undef, .val undef, .val undef, .val undef, .val undef, .val undef, .val undef, .val undef, .val (.bool false)] Ty.mixed rfl rfl (by kernel_rfl) (by kernel_rfl) rfl
             ·
              refine ⟨?_, ?_, ?_, ?_, ?_, ?_, ?_, ?_, ?_, ?_, ?_, ?_, ?_, ?_, ?_, ?_, ?_, ?_, ?_, ?_, ?_, ?_, ?_, ?_, ?_, ?_, ?_, ?_, ?_, ?_, ?_, ?_, ?_, ?_, ?_, ?_, ?_, ?_, ?_, ?_, ?_, ?_, ?_, ?_, ?_, ?_, ?_, ?_, ?_, ?_, ?_, ?_, trivial⟩
              ·
               intro w225 vq225 hB225 hH225
               have hS225 := hS17.below hB225
               refine W_move rfl rfl ?_
               refine W_nil ?_
               exact N_step rfl rfl (Below.refl _ _)
              ·
               intro w226 vq226 hB226 hH226
               have hS226 := hS17.below hB226
               refine W_not rfl rfl ?_
               refine W_nil ?_
               exact N_step rfl rfl (Below.refl _ _)
              ·
               intro w227 vq227 hB227 hH227
               have hS227 := hS17.below hB227
               refine W_move rfl rfl ?_
               refine W_nil ?_
               exact N_step rfl (congrArg Value.bool hb34) (Below.refl _ _)
              ·
               intro w228 vq228 hB228 hH228
               have hS228 := hS17.below hB228
               refine W_guard_yes rfl ?_
               refine W_move rfl rfl ?_
               refine W_nil ?_
               exact N_step rfl rfl (Below.refl _ _)
              ·
               intro w229 vq229 hB229 hH229
               have hS229 := hS17.below hB229
               refine W_guard_yes rfl ?_
               refine W_move rfl rfl ?_
               refine W_nil ?_
               exact N_step rfl rfl (Below.refl _ _)
              ·
               intro w230 vq230 hB230 hH230
               have hS230 := hS17.below hB230
               refine W_guard_yes rfl ?_
               refine W_ix rfl Go.Proofs.Try.underlying49 Ty.cells37 Ty.info37 rfl rfl (he220.el hS230.agree) hp220 rfl ?_
               refine W_nil ?_
               exact N_step rfl rfl (Below.refl _ _)
              ·
               intro w231 vq231 hB231 hH231
               have hS231 := hS17.below hB231
               refine W_guard_yes rfl ?_
               refine W_ldg 0 ((Loc.cells x19)) rfl Ty.agg37 Ty.size37 rfl (he220.el hS231.agree) (by omega) (fun q u h => sub_at (post := []) rfl h) ?_
               refine W_nil ?_
               exact N_step rfl rfl (Below.refl _ _)
              ·
               intro w232 vq232 hB232 hH232
               have hS232 := hS17.below hB232
               refine W_guard_yes rfl ?_
               refine W_move rfl rfl ?_
               refine W_nil ?_
               exact N_step rfl rfl (Below.refl _ _)
              ·
               intro w233 vq233 hB233 hH233
               have hS233 := hS17.below hB233
               refine W_guard_yes rfl ?_
               refine W_move rfl rfl ?_
               refine W_nil ?_
               exact N_step rfl rfl (Below.refl _ _)
              ·
               intro w234 vq234 hB234 hH234
               have hS234 := hS17.below hB234
               refine W_guard_yes rfl ?_
               refine W_ix rfl Go.Proofs.Try.underlying49 Ty.cells37 Ty.info37 rfl rfl (he220.el hS234.agree) hp220 rfl ?_
               refine W_nil ?_
               exact N_step rfl rfl (Below.refl _ _)
              ·
               intro w235 vq235 hB235 hH235
               have hS235 := hS17.below hB235
               refine W_guard_yes rfl ?_
               refine W_ldg 0 ((Loc.cells x19)) rfl Ty.agg37 Ty.size37 rfl (he220.el hS235.agree) (by omega) (fun q u h => sub_at (post := []) rfl h) ?_
               refine W_nil ?_
               exact N_step rfl rfl (Below.refl _ _)
              ·
               intro w236 vq236 hB236 hH236
               have hS236 := hS17.below hB236
               refine W_guard_yes rfl ?_
               have hy237 := hr21
               rw [only_t (by first | rfl | (rw [hb34]; first | done | rfl) | simp [hb34, hb88, hb146, hb147])] at hy237
               refine W_call rfl Ty.named31 rfl (plan_Ahead_ok hS236.agree hy237) ?_
               rintro v238 w238 ⟨Fr21, rfl, hT238⟩
               have hS238 := hS236.lent hT238
               refine W_nil ?_
               exact N_step rfl rfl hT238.below0
              ·
               intro w239 vq239 hB239 hH239
               have hS239 := hS17.below hB239
               refine W_pick_f rfl rfl rfl ?_
               refine W_nil ?_
               exact N_step rfl rfl (Below.refl _ _)
              ·
               intro w240 vq240 hB240 hH240
               have hS240 := hS17.below hB240
               refine W_move rfl rfl ?_
               refine W_nil ?_
               exact N_step rfl (congrArg Value.bool hb88) (Below.refl _ _)
              ·
               intro w241 vq241 hB241 hH241
               have hS241 := hS17.below hB241
               refine W_guard_yes rfl ?_
               refine W_move rfl rfl ?_
               refine W_nil ?_
               exact N_step rfl rfl (Below.refl _ _)
              ·
               intro w242 vq242 hB242 hH242
               have hS242 := hS17.below hB242
               refine W_guard_yes rfl ?_
               refine W_gtr rfl rfl rfl ?_
               refine W_nil ?_
               exact N_step rfl rfl (Below.refl _ _)
              ·
               intro w243 vq243 hB243 hH243
               have hS243 := hS17.below hB243
               refine W_guard_yes rfl ?_
               refine W_move rfl rfl ?_
               refine W_nil ?_
               exact N_step rfl (congrArg Value.bool hb146) (Below.refl _ _)
              ·
               intro w244 vq244 hB244 hH244
               have hS244 := hS17.below hB244
               refine W_guard_yes rfl ?_
               refine W_move rfl rfl ?_
               refine W_nil ?_
               exact N_step rfl rfl (Below.refl _ _)
              ·
               intro w245 vq245 hB245 hH245
               have hS245 := hS17.below hB245
               refine W_guard_yes rfl ?_
               refine W_move rfl rfl ?_
               refine W_nil ?_
               exact N_step rfl rfl (Below.refl _ _)
              ·
               intro w246 vq246 hB246 hH246
               have hS246 := hS17.below hB246
               refine W_guard_yes rfl ?_
               refine W_ix rfl Go.Proofs.Try.underlying49 Ty.cells37 Ty.info37 rfl rfl (he222.el hS246.agree) hp222 rfl ?_
               refine W_nil ?_
               exact N_step rfl rfl (Below.refl _ _)
              ·
               intro w247 vq247 hB247 hH247
               have hS247 := hS17.below hB247
               refine W_guard_yes rfl ?_
               refine W_ldg 0 ((Loc.cells x22)) rfl Ty.agg37 Ty.size37 rfl (he222.el hS247.agree) (by omega) (fun q u h => sub_at (post := []) rfl h) ?_
               refine W_nil ?_
               exact N_step rfl rfl (Below.refl _ _)
              ·
               intro w248 vq248 hB248 hH248
               have hS248 := hS17.below hB248
               refine W_guard_yes rfl ?_
               refine W_move rfl rfl ?_
               refine W_nil ?_
               exact N_step rfl rfl (Below.refl _ _)
              ·
               intro w249 vq249 hB249 hH249
               have hS249 := hS17.below hB249
               refine W_guard_yes rfl ?_
               refine W_move rfl rfl ?_
               refine W_nil ?_
               exact N_step rfl rfl (Below.refl _ _)
              ·
               intro w250 vq250 hB250 hH250
               have hS250 := hS17.below hB250
               refine W_guard_yes rfl ?_
               refine W_subi rfl rfl rfl rfl ?_
               refine W_nil ?_
               exact N_step rfl rfl (Below.refl _ _)
              ·
               intro w251 vq251 hB251 hH251
               have hS251 := hS17.below hB251
               refine W_guard_yes rfl ?_
               refine W_ix rfl Go.Proofs.Try.underlying49 Ty.cells37 Ty.info37 rfl rfl (he224.el hS251.agree) hp224 rfl ?_
               refine W_nil ?_
               exact N_step rfl rfl (Below.refl _ _)
              ·
               intro w252 vq252 hB252 hH252
               have hS252 := hS17.below hB252
               refine W_guard_yes rfl ?_
               refine W_ldg 0 ((Loc.cells x24)) rfl Ty.agg37 Ty.size37 rfl (he224.el hS252.agree) (by omega) (fun q u h => sub_at (post := []) rfl h) ?_
               refine W_nil ?_
               exact N_step rfl rfl (Below.refl _ _)
              ·
               intro w253 vq253 hB253 hH253
               have hS253 := hS17.below hB253
               refine W_guard_yes rfl ?_
               have hy254 := hr26
               rw [only_t (by first | rfl | (rw [hb146, hb34, hb88]; first | done | rfl) | simp [hb34, hb88, hb146, hb147])] at hy254
               refine W_call rfl Ty.named31 rfl (plan_Ahead_ok hS253.agree hy254) ?_
               rintro v255 w255 ⟨Fr26, rfl, hT255⟩
               have hS255 := hS253.lent hT255
               refine W_nil ?_
               exact N_step rfl rfl hT255.below0
              ·
               intro w256 vq256 hB256 hH256
               have hS256 := hS17.below hB256
               refine W_guard_yes rfl ?_
               refine W_move rfl rfl ?_
               refine W_nil ?_
               exact N_step rfl rfl (Below.refl _ _)
              ·
               intro w257 vq257 hB257 hH257
               have hS257 := hS17.below hB257
               refine W_guard_yes rfl ?_
               refine W_move rfl rfl ?_
               refine W_nil ?_
               exact N_step rfl rfl (Below.refl _ _)
              ·
               intro w258 vq258 hB258 hH258
               have hS258 := hS17.below hB258
               refine W_guard_yes rfl ?_
               refine W_subi rfl rfl rfl rfl ?_
               refine W_nil ?_
               exact N_step rfl rfl (Below.refl _ _)
              ·
               intro w259 vq259 hB259 hH259
               have hS259 := hS17.below hB259
               refine W_guard_yes rfl ?_
               refine W_ix rfl Go.Proofs.Try.underlying49 Ty.cells37 Ty.info37 rfl rfl (he224.el hS259.agree) hp224 rfl ?_
               refine W_nil ?_
               exact N_step rfl rfl (Below.refl _ _)
              ·
               intro w260 vq260 hB260 hH260
               have hS260 := hS17.below hB260
               refine W_guard_yes rfl ?_
               refine W_ldg 0 ((Loc.cells x24)) rfl Ty.agg37 Ty.size37 rfl (he224.el hS260.agree) (by omega) (fun q u h => sub_at (post := []) rfl h) ?_
               refine W_nil ?_
               exact N_step rfl rfl (Below.refl _ _)
              ·
               intro w261 vq261 hB261 hH261
               have hS261 := hS17.below hB261
               refine W_guard_yes rfl ?_
               refine W_move rfl rfl ?_
               refine W_nil ?_
               exact N_step rfl rfl (Below.refl _ _)
              ·
               intro w262 vq262 hB262 hH262
               have hS262 := hS17.below hB262
               refine W_guard_yes rfl ?_
               refine W_move rfl rfl ?_
               refine W_nil ?_
               exact N_step rfl rfl (Below.refl _ _)
              ·
               intro w263 vq263 hB263 hH263
               have hS263 := hS17.below hB263
               refine W_guard_yes rfl ?_
               refine W_ix rfl Go.Proofs.Try.underlying49 Ty.cells37 Ty.info37 rfl rfl (he222.el hS263.agree) hp222 rfl ?_
               refine W_nil ?_
               exact N_step rfl rfl (Below.refl _ _)
              ·
               intro w264 vq264 hB264 hH264
               have hS264 := hS17.below hB264
               refine W_guard_yes rfl ?_
               refine W_ldg 0 ((Loc.cells x22)) rfl Ty.agg37 Ty.size37 rfl (he222.el hS264.agree) (by omega) (fun q u h => sub_at (post := []) rfl h) ?_
               refine W_nil ?_
               exact N_step rfl rfl (Below.refl _ _)
              ·
               intro w265 vq265 hB265 hH265
               have hS265 := hS17.below hB265
               refine W_guard_yes rfl ?_
               have hy266 := hr27
               rw [only_t (by first | rfl | (rw [hb146, hb34, hb88]; first | done | rfl) | simp [hb34, hb88, hb146, hb147])] at hy266
               refine W_call rfl Ty.named31 rfl (plan_Ahead_ok hS265.agree hy266) ?_
               rintro v267 w267 ⟨Fr27, rfl, hT267⟩
               have hS267 := hS265.lent hT267
               refine W_nil ?_
               exact N_step rfl rfl hT267.below0
              ·
               intro w268 vq268 hB268 hH268
               have hS268 := hS17.below hB268
               refine W_guard_yes rfl ?_
               refine W_eqlb rfl Go.Proofs.Try.underlying4 rfl rfl ?_
               refine W_nil ?_
               exact N_step rfl rfl (Below.refl _ _)
              ·
               intro w269 vq269 hB269 hH269
               have hS269 := hS17.below hB269
               refine W_guard_yes rfl ?_
               refine W_pick_t rfl rfl rfl ?_
               refine W_nil ?_
               exact N_step rfl rfl (Below.refl _ _)
              ·
               intro w270 vq270 hB270 hH270
               have hS270 := hS17.below hB270
               refine W_guard_yes rfl ?_
               refine W_move rfl rfl ?_
               refine W_nil ?_
               exact N_step rfl (congrArg Value.bool hb147) (Below.refl _ _)
              ·
               intro w271 vq271 hB271 hH271
               have hS271 := hS17.below hB271
               refine W_guard_no rfl rfl rfl rfl rfl ?_
               refine W_nil ?_
               exact N_step rfl rfl (Below.refl _ _)
              ·
               intro w272 vq272 hB272 hH272
               have hS272 := hS17.below hB272
               refine W_guard_no rfl rfl rfl rfl rfl ?_
               refine W_nil ?_
               exact N_step rfl rfl (Below.refl _ _)
              ·
               intro w273 vq273 hB273 hH273
               have hS273 := hS17.below hB273
               refine W_guard_no rfl rfl rfl rfl rfl ?_
               refine W_nil ?_
               exact N_step rfl rfl (Below.refl _ _)
              ·
               intro w274 vq274 hB274 hH274
               have hS274 := hS17.below hB274
               refine W_guard_no rfl rfl rfl rfl rfl ?_
               refine W_nil ?_
               exact N_step rfl rfl (Below.refl _ _)
              ·
               intro w275 vq275 hB275 hH275
               have hS275 := hS17.below hB275
               refine W_guard_no rfl rfl rfl rfl rfl ?_
               refine W_nil ?_
               exact N_step rfl rfl (Below.refl _ _)
              ·
               intro w276 vq276 hB276 hH276
               have hS276 := hS17.below hB276
               refine W_guard_no rfl rfl rfl rfl rfl ?_
               refine W_nil ?_
               exact N_step rfl rfl (Below.refl _ _)
              ·
               intro w277 vq277 hB277 hH277
               have hS277 := hS17.below hB277
               refine W_guard_no rfl rfl rfl rfl rfl ?_
               refine W_nil ?_
               exact N_step rfl rfl (Below.refl _ _)
              ·
               intro w278 vq278 hB278 hH278
               have hS278 := hS17.below hB278
               refine W_guard_no rfl rfl rfl rfl rfl ?_
               refine W_nil ?_
               exact N_step rfl rfl (Below.refl _ _)
              ·
               intro w279 vq279 hB279 hH279
               have hS279 := hS17.below hB279
               refine W_guard_no rfl rfl rfl rfl rfl ?_
               refine W_nil ?_
               exact N_step rfl rfl (Below.refl _ _)
              ·
               intro w280 vq280 hB280 hH280
               have hS280 := hS17.below hB280
               refine W_guard_no rfl rfl rfl rfl rfl ?_
               refine W_nil ?_
               exact N_step rfl rfl (Below.refl _ _)
              ·
               intro w281 vq281 hB281 hH281
               have hS281 := hS17.below hB281
               refine W_guard_no rfl rfl rfl rfl rfl ?_
               refine W_nil ?_
               exact N_step rfl rfl (Below.refl _ _)
              ·
               intro w282 vq282 hB282 hH282
               have hS282 := hS17.below hB282
               refine W_guard_yes rfl ?_
               refine W_pick_f rfl rfl rfl ?_
               refine W_nil ?_
               exact N_step rfl rfl (Below.refl _ _)
             intro w283 vq283 hB283 hH283
             have hS283 := hS17.below hB283
             refine W_pick_f rfl rfl rfl ?_
             refine W_nil ?_
             exact N_join _ ⟨rfl, F17, (Frz.le.refl _), hS283⟩ ⟨rfl, rfl, rfl, (look_bool rfl (by first | rfl | (rw [hb146, hb147, hb34, hb88]; first | done | rfl) | simp [hb34, hb88, hb146, hb147])), trivial⟩
           ·
            have hy284 := hx19
            rw [only_t (by first | rfl | (rw [hb34]; first | done | rfl) | simp [hb34, hb88, hb146])] at hy284
            obtain ⟨hp285, hy285⟩ := ix_some hy284
            obtain ⟨cs285, hr285, he285⟩ := (h0.mono (((ler2.trans le4).trans le12).trans le17)).at_ hy285
            obtain rfl := hr285
            replace he285 : Elf _ _ 4 _ _ := he285
            apply C_draw 52 [[], [0], [1], [2], [2], [3, 4, 2], [5, 2], [2], [2], [7, 8, 2], [9, 2], [6, 10, 2], [2, 11], [12], [13], [14, 13], [15, 13], [16], [16], [17, 18, 16], [19, 16], [16], [16], [22, 16], [21, 23, 16], [24, 16], [20, 25, 16], [16], [16], [28, 16], [27, 29, 16], [30, 16], [16], [16], [32, 33, 16], [34, 16], [31, 35, 16], [26, 36, 16], [16, 37, 13], [38, 13], [39], [39], [40, 41, 39], [42, 39], [39], [39], [45, 39], [44, 46, 39], [47, 39], [43, 48, 39], [49, 39], [39, 50, 13]] [.val (.bool b18), .val (.bool (!b18)), .val (.bool false), .val (v0), .val (.int .i64 i13), .val (elp v0 (i13.toNat * 4)), .val (.agg (Loc.cells x19).toArray), .val (v0), .val (.int .i64 i13), .val (elp v0 (i13.toNat * 4)), .val (.agg (Loc.cells x19).toArray), .val (.bool r21), .val (.bool r21), .val (.bool false), .val (.int .i64 i13), .val (.bool (decide (0 < i13))), .val (.bool false), .val undef, .val undef, .val undef, .val undef, .val undef, .val undef, .val undef, .val undef, .val undef, .val undef, .val undef, .val undef, .val undef, .val undef, .val undef, .val undef, .val undef, .val undef, .val undef, .val undef, .val undef, .val (.bool false), .val (.bool false), .val undef, .val undef, .val undef, .val undef, .val undef, .val undef, .val undef, .val undef, .val undef, .val undef, .val undef, .val (.bool false)] Ty.mixed rfl rfl (by kernel_rfl) (by kernel_rfl) rfl
            ·
             refine ⟨?_, ?_, ?_, ?_, ?_, ?_, ?_, ?_, ?_, ?_, ?_, ?_, ?_, ?_, ?_, ?_, ?_, ?_, ?_, ?_, ?_, ?_, ?_, ?_, ?_, ?_, ?_, ?_, ?_, ?_, ?_, ?_, ?_, ?_, ?_, ?_, ?_, ?_, ?_, ?_, ?_, ?_, ?_, ?_, ?_, ?_, ?_, ?_, ?_, ?_, ?_, ?_, trivial⟩
             ·
              intro w286 vq286 hB286 hH286
              have hS286 := hS17.below hB286
              refine W_move rfl rfl ?_
              refine W_nil ?_
              exact N_step rfl rfl (Below.refl _ _)
             ·
              intro w287 vq287 hB287 hH287
              have hS287 := hS17.below hB287
              refine W_not rfl rfl ?_
              refine W_nil ?_
              exact N_step rfl rfl (Below.refl _ _)
             ·
              intro w288 vq288 hB288 hH288
              have hS288 := hS17.below hB288
              refine W_move rfl rfl ?_
              refine W_nil ?_
              exact N_step rfl (congrArg Value.bool hb34) (Below.refl _ _)
             ·
              intro w289 vq289 hB289 hH289
              have hS289 := hS17.below hB289
              refine W_guard_yes rfl ?_
              refine W_move rfl rfl ?_
              refine W_nil ?_
              exact N_step rfl rfl (Below.refl _ _)
             ·
              intro w290 vq290 hB290 hH290
              have hS290 := hS17.below hB290
              refine W_guard_yes rfl ?_
              refine W_move rfl rfl ?_
              refine W_nil ?_
              exact N_step rfl rfl (Below.refl _ _)
             ·
              intro w291 vq291 hB291 hH291
              have hS291 := hS17.below hB291
              refine W_guard_yes rfl ?_
              refine W_ix rfl Go.Proofs.Try.underlying49 Ty.cells37 Ty.info37 rfl rfl (he285.el hS291.agree) hp285 rfl ?_
              refine W_nil ?_
              exact N_step rfl rfl (Below.refl _ _)
             ·
              intro w292 vq292 hB292 hH292
              have hS292 := hS17.below hB292
              refine W_guard_yes rfl ?_
              refine W_ldg 0 ((Loc.cells x19)) rfl Ty.agg37 Ty.size37 rfl (he285.el hS292.agree) (by omega) (fun q u h => sub_at (post := []) rfl h) ?_
              refine W_nil ?_
              exact N_step rfl rfl (Below.refl _ _)
             ·
              intro w293 vq293 hB293 hH293
              have hS293 := hS17.below hB293
              refine W_guard_yes rfl ?_
              refine W_move rfl rfl ?_
              refine W_nil ?_
              exact N_step rfl rfl (Below.refl _ _)
             ·
              intro w294 vq294 hB294 hH294
              have hS294 := hS17.below hB294
              refine W_guard_yes rfl ?_
              refine W_move rfl rfl ?_
              refine W_nil ?_
              exact N_step rfl rfl (Below.refl _ _)
             ·
              intro w295 vq295 hB295 hH295
              have hS295 := hS17.below hB295
              refine W_guard_yes rfl ?_
              refine W_ix rfl Go.Proofs.Try.underlying49 Ty.cells37 Ty.info37 rfl rfl (he285.el hS295.agree) hp285 rfl ?_
              refine W_nil ?_
              exact N_step rfl rfl (Below.refl _ _)
             ·
              intro w296 vq296 hB296 hH296
              have hS296 := hS17.below hB296
              refine W_guard_yes rfl ?_
              refine W_ldg 0 ((Loc.cells x19)) rfl Ty.agg37 Ty.size37 rfl (he285.el hS296.agree) (by omega) (fun q u h => sub_at (post := []) rfl h) ?_
              refine W_nil ?_
              exact N_step rfl rfl (Below.refl _ _)
             ·
              intro w297 vq297 hB297 hH297
              have hS297 := hS17.below hB297
              refine W_guard_yes rfl ?_
              have hy298 := hr21
              rw [only_t (by first | rfl | (rw [hb34]; first | done | rfl) | simp [hb34, hb88, hb146])] at hy298
              refine W_call rfl Ty.named31 rfl (plan_Ahead_ok hS297.agree hy298) ?_
              rintro v299 w299 ⟨Fr21, rfl, hT299⟩
              have hS299 := hS297.lent hT299
              refine W_nil ?_
              exact N_step rfl rfl hT299.below0
             ·
              intro w300 vq300 hB300 hH300
              have hS300 := hS17.below hB300
              refine W_pick_f rfl rfl rfl ?_
              refine W_nil ?_
              exact N_step rfl rfl (Below.refl _ _)
             ·
              intro w301 vq301 hB301 hH301
              have hS301 := hS17.below hB301
              refine W_move rfl rfl ?_
              refine W_nil ?_
              exact N_step rfl (congrArg Value.bool hb88) (Below.refl _ _)
             ·
              intro w302 vq302 hB302 hH302
              have hS302 := hS17.below hB302
              refine W_guard_yes rfl ?_
              refine W_move rfl rfl ?_
              refine W_nil ?_
              exact N_step rfl rfl (Below.refl _ _)
             ·
              intro w303 vq303 hB303 hH303
              have hS303 := hS17.below hB303
              refine W_guard_yes rfl ?_
              refine W_gtr rfl rfl rfl ?_
              refine W_nil ?_
              exact N_step rfl rfl (Below.refl _ _)
             ·
              intro w304 vq304 hB304 hH304
              have hS304 := hS17.below hB304
              refine W_guard_yes rfl ?_
              refine W_move rfl rfl ?_
              refine W_nil ?_
              exact N_step rfl (congrArg Value.bool hb146) (Below.refl _ _)
             ·
              intro w305 vq305 hB305 hH305
              have hS305 := hS17.below hB305
              refine W_guard_no rfl rfl rfl rfl rfl ?_
              refine W_nil ?_
              exact N_step rfl rfl (Below.refl _ _)
             ·
              intro w306 vq306 hB306 hH306
              have hS306 := hS17.below hB306
              refine W_guard_no rfl rfl rfl rfl rfl ?_
              refine W_nil ?_
              exact N_step rfl rfl (Below.refl _ _)
             ·
              intro w307 vq307 hB307 hH307
              have hS307 := hS17.below hB307
              refine W_guard_no rfl rfl rfl rfl rfl ?_
              refine W_nil ?_
              exact N_step rfl rfl (Below.refl _ _)
             ·
              intro w308 vq308 hB308 hH308
              have hS308 := hS17.below hB308
              refine W_guard_no rfl rfl rfl rfl rfl ?_
              refine W_nil ?_
              exact N_step rfl rfl (Below.refl _ _)
             ·
              intro w309 vq309 hB309 hH309
              have hS309 := hS17.below hB309
              refine W_guard_no rfl rfl rfl rfl rfl ?_
              refine W_nil ?_
              exact N_step rfl rfl (Below.refl _ _)
             ·
              intro w310 vq310 hB310 hH310
              have hS310 := hS17.below hB310
              refine W_guard_no rfl rfl rfl rfl rfl ?_
              refine W_nil ?_
              exact N_step rfl rfl (Below.refl _ _)
             ·
              intro w311 vq311 hB311 hH311
              have hS311 := hS17.below hB311
              refine W_guard_no rfl rfl rfl rfl rfl ?_
              refine W_nil ?_
              exact N_step rfl rfl (Below.refl _ _)
             ·
              intro w312 vq312 hB312 hH312
              have hS312 := hS17.below hB312
              refine W_guard_no rfl rfl rfl rfl rfl ?_
              refine W_nil ?_
              exact N_step rfl rfl (Below.refl _ _)
             ·
              intro w313 vq313 hB313 hH313
              have hS313 := hS17.below hB313
              refine W_guard_no rfl rfl rfl rfl rfl ?_
              refine W_nil ?_
              exact N_step rfl rfl (Below.refl _ _)
             ·
              intro w314 vq314 hB314 hH314
              have hS314 := hS17.below hB314
              refine W_guard_no rfl rfl rfl rfl rfl ?_
              refine W_nil ?_
              exact N_step rfl rfl (Below.refl _ _)
             ·
              intro w315 vq315 hB315 hH315
              have hS315 := hS17.below hB315
              refine W_guard_no rfl rfl rfl rfl rfl ?_
              refine W_nil ?_
              exact N_step rfl rfl (Below.refl _ _)
             ·
              intro w316 vq316 hB316 hH316
              have hS316 := hS17.below hB316
              refine W_guard_no rfl rfl rfl rfl rfl ?_
              refine W_nil ?_
              exact N_step rfl rfl (Below.refl _ _)
             ·
              intro w317 vq317 hB317 hH317
              have hS317 := hS17.below hB317
              refine W_guard_no rfl rfl rfl rfl rfl ?_
              refine W_nil ?_
              exact N_step rfl rfl (Below.refl _ _)
             ·
              intro w318 vq318 hB318 hH318
              have hS318 := hS17.below hB318
              refine W_guard_no rfl rfl rfl rfl rfl ?_
              refine W_nil ?_
              exact N_step rfl rfl (Below.refl _ _)
             ·
              intro w319 vq319 hB319 hH319
              have hS319 := hS17.below hB319
              refine W_guard_no rfl rfl rfl rfl rfl ?_
              refine W_nil ?_
              exact N_step rfl rfl (Below.refl _ _)
             ·
              intro w320 vq320 hB320 hH320
              have hS320 := hS17.below hB320
              refine W_guard_no rfl rfl rfl rfl rfl ?_
              refine W_nil ?_
              exact N_step rfl rfl (Below.refl _ _)
             ·
              intro w321 vq321 hB321 hH321
              have hS321 := hS17.below hB321
              refine W_guard_no rfl rfl rfl rfl rfl ?_
              refine W_nil ?_
              exact N_step rfl rfl (Below.refl _ _)
             ·
              intro w322 vq322 hB322 hH322
              have hS322 := hS17.below hB322
              refine W_guard_no rfl rfl rfl rfl rfl ?_
              refine W_nil ?_
              exact N_step rfl rfl (Below.refl _ _)
             ·
              intro w323 vq323 hB323 hH323
              have hS323 := hS17.below hB323
              refine W_guard_no rfl rfl rfl rfl rfl ?_
              refine W_nil ?_
              exact N_step rfl rfl (Below.refl _ _)
             ·
              intro w324 vq324 hB324 hH324
              have hS324 := hS17.below hB324
              refine W_guard_no rfl rfl rfl rfl rfl ?_
              refine W_nil ?_
              exact N_step rfl rfl (Below.refl _ _)
             ·
              intro w325 vq325 hB325 hH325
              have hS325 := hS17.below hB325
              refine W_guard_no rfl rfl rfl rfl rfl ?_
              refine W_nil ?_
              exact N_step rfl rfl (Below.refl _ _)
             ·
              intro w326 vq326 hB326 hH326
              have hS326 := hS17.below hB326
              refine W_guard_yes rfl ?_
              refine W_pick_f rfl rfl rfl ?_
              refine W_nil ?_
              exact N_step rfl rfl (Below.refl _ _)
             ·
              intro w327 vq327 hB327 hH327
              have hS327 := hS17.below hB327
              refine W_guard_yes rfl ?_
              refine W_move rfl rfl ?_
              refine W_nil ?_
              exact N_step rfl rfl (Below.refl _ _)
             ·
              intro w328 vq328 hB328 hH328
              have hS328 := hS17.below hB328
              refine W_guard_no rfl rfl rfl rfl rfl ?_
              refine W_nil ?_
              exact N_step rfl rfl (Below.refl _ _)
             ·
              intro w329 vq329 hB329 hH329
              have hS329 := hS17.below hB329
              refine W_guard_no rfl rfl rfl rfl rfl ?_
              refine W_nil ?_
              exact N_step rfl rfl (Below.refl _ _)
             ·
              intro w330 vq330 hB330 hH330
              have hS330 := hS17.below hB330
              refine W_guard_no rfl rfl rfl rfl rfl ?_
              refine W_nil ?_
              exact N_step rfl rfl (Below.refl _ _)
             ·
              intro w331 vq331 hB331 hH331
              have hS331 := hS17.below hB331
              refine W_guard_no rfl rfl rfl rfl rfl ?_
              refine W_nil ?_
              exact N_step rfl rfl (Below.refl _ _)
             ·
              intro w332 vq332 hB332 hH332
              have hS332 := hS17.below hB332
              refine W_guard_no rfl rfl rfl rfl rfl ?_
              refine W_nil ?_
              exact N_step rfl rfl (Below.refl _ _)
             ·
              intro w333 vq333 hB333 hH333
              have hS333 := hS17.below hB333
              refine W_guard_no rfl rfl rfl rfl rfl ?_
              refine W_nil ?_
              exact N_step rfl rfl (Below.refl _ _)
             ·
              intro w334 vq334 hB334 hH334
              have hS334 := hS17.below hB334
              refine W_guard_no rfl rfl rfl rfl rfl ?_
              refine W_nil ?_
              exact N_step rfl rfl (Below.refl _ _)
             ·
              intro w335 vq335 hB335 hH335
              have hS335 := hS17.below hB335
              refine W_guard_no rfl rfl rfl rfl rfl ?_
              refine W_nil ?_
              exact N_step rfl rfl (Below.refl _ _)
             ·
              intro w336 vq336 hB336 hH336
              have hS336 := hS17.below hB336
              refine W_guard_no rfl rfl rfl rfl rfl ?_
              refine W_nil ?_
              exact N_step rfl rfl (Below.refl _ _)
             ·
              intro w337 vq337 hB337 hH337
              have hS337 := hS17.below hB337
              refine W_guard_no rfl rfl rfl rfl rfl ?_
              refine W_nil ?_
              exact N_step rfl rfl (Below.refl _ _)
             ·
              intro w338 vq338 hB338 hH338
              have hS338 := hS17.below hB338
              refine W_guard_no rfl rfl rfl rfl rfl ?_
              refine W_nil ?_
              exact N_step rfl rfl (Below.refl _ _)
             ·
              intro w339 vq339 hB339 hH339
              have hS339 := hS17.below hB339
              refine W_guard_yes rfl ?_
              refine W_pick_f rfl rfl rfl ?_
              refine W_nil ?_
              exact N_step rfl rfl (Below.refl _ _)
            intro w340 vq340 hB340 hH340
            have hS340 := hS17.below hB340
            refine W_pick_f rfl rfl rfl ?_
            refine W_nil ?_
            exact N_join _ ⟨rfl, F17, (Frz.le.refl _), hS340⟩ ⟨rfl, rfl, rfl, (look_bool rfl (by first | rfl | (rw [hb146, hb34, hb88]; first | done | rfl) | simp [hb34, hb88, hb146])), trivial⟩
        rintro E w33 ⟨rfl, F33, le33, hS33⟩
        refine N_code ?_
        refine C_cond rfl (fun hc341 => ?_) (fun hc341 => ?_)
        ·
         rw [if_t hc341] at H
         refine C_seq ?_
         refine C_region ?_
         refine W_assign rfl rfl ?_
         refine W_nil ?_
         refine N_code ?_
         obtain rfl := Option.some.inj H
         refine C_ret rfl rfl ?_
         exact ⟨F33, rfl, hS33.pick [] (by decide)⟩
        ·
         rw [if_f hc341] at H
         refine C_skip ?_
         refine N_block ?_
         exact N_join _ ⟨H, ⟨F33, rfl, (le17.trans le33), hS33⟩⟩ ⟨rfl, rfl, rfl, trivial⟩
      ·
       rintro E w16 ⟨H, F16, rfl, le16, hS16⟩
       dsimp only [cellarerlaw21_PlanSorts.k4] at H
       refine C_region ?_
       refine W_move rfl rfl ?_
       refine W_add rfl rfl rfl rfl ?_
       refine W_assign rfl rfl ?_
       refine W_nil ?_
       exact N_againM (wr (i13 + 1)) _ H ⟨F16, rfl, (le12.trans le16), hS16⟩ ⟨rfl, rfl, rfl, trivial⟩
     ·
      rw [if_f hc15] at H
      refine C_exit _ rfl ?_
      exact N_join _ ⟨H, ⟨F12, rfl, le12, hS12⟩⟩ ⟨rfl, rfl, trivial⟩
   ·
    rintro E w5 ⟨H, F5, rfl, le5, hS5⟩
    dsimp only [cellarerlaw21_PlanSorts.k2] at H
    refine C_seq ?_
    obtain ⟨r6, hr6, H⟩ := bd_some H
    refine C_join (fun E wq => E = [(2, .bool ((decide ((r2.length : Int) ≤ (x0.length : Int)) && (decide (0 < (r2.length : Int)) == decide (0 < (x0.length : Int)))) && r6))] ∧ ∃ F7 : Frz, F5.le F7 ∧ St [] w F F7 [.row Loc.t 37 ur2_0 r2] wq) ?_ ?_
    ·
     rcases Bool.eq_false_or_eq_true (decide ((r2.length : Int) ≤ (x0.length : Int))) with hb8 | hb8
     ·
      rcases Bool.eq_false_or_eq_true (decide (0 < (r2.length : Int)) == decide (0 < (x0.length : Int))) with hb9 | hb9
      ·
       refine C_region ?_
       refine W_move rfl rfl ?_
       refine W_lenv rfl Go.Proofs.Try.underlying49 rfl (hS5.rowLn (k := 0) rfl) ?_
       refine W_move rfl rfl ?_
       refine W_lenv rfl Go.Proofs.Try.underlying49 rfl h0.ln ?_
       refine W_leq rfl rfl rfl ?_
       refine W_move rfl rfl ?_
       refine W_known (t := 112) true rfl hb8 ?_
       refine W_guard_yes rfl ?_
       refine W_move rfl rfl ?_
       refine W_guard_yes rfl ?_
       refine W_lenv rfl Go.Proofs.Try.underlying49 rfl (hS5.rowLn (k := 0) rfl) ?_
       refine W_guard_yes rfl ?_
       refine W_gtr rfl rfl rfl ?_
       refine W_guard_yes rfl ?_
       refine W_move rfl rfl ?_
       refine W_guard_yes rfl ?_
       refine W_lenv rfl Go.Proofs.Try.underlying49 rfl h0.ln ?_
       refine W_guard_yes rfl ?_
       refine W_gtr rfl rfl rfl ?_
       refine W_guard_yes rfl ?_
       refine W_eqlb rfl Go.Proofs.Try.underlying4 rfl rfl ?_
       refine W_pick_t rfl rfl rfl ?_
       refine W_move rfl rfl ?_
       refine W_known (t := 121) true rfl hb9 ?_
       refine W_guard_yes rfl ?_
       have hy10 := hr6
       rw [only_t (by first | rfl | (rw [hb9, hb8]; first | done | rfl) | simp [hb8, hb9])] at hy10
       refine W_call rfl Ty.named30 rfl (cellarerlaw21_wakes_ok hS5.agree hy10) ?_
       rintro v11 w11 ⟨Fr6, rfl, hT11⟩
       have hS11 := hS5.lent hT11
       refine W_pick_t rfl rfl rfl ?_
       refine W_assign rfl rfl ?_
       refine W_nil ?_
       exact N_join _ ⟨rfl, F5, (Frz.le.refl _), hS11⟩ ⟨(look_bool rfl (by first | rfl | (rw [hb9, hb8]; first | done | rfl) | simp [hb8, hb9])), trivial⟩
      ·
       refine C_region ?_
       refine W_move rfl rfl ?_
       refine W_lenv rfl Go.Proofs.Try.underlying49 rfl (hS5.rowLn (k := 0) rfl) ?_
       refine W_move rfl rfl ?_
       refine W_lenv rfl Go.Proofs.Try.underlying49 rfl h0.ln ?_
       refine W_leq rfl rfl rfl ?_
       refine W_move rfl rfl ?_
       refine W_known (t := 112) true rfl hb8 ?_
       refine W_guard_yes rfl ?_
       refine W_move rfl rfl ?_
       refine W_guard_yes rfl ?_
       refine W_lenv rfl Go.Proofs.Try.underlying49 rfl (hS5.rowLn (k := 0) rfl) ?_
       refine W_guard_yes rfl ?_
       refine W_gtr rfl rfl rfl ?_
       refine W_guard_yes rfl ?_
       refine W_move rfl rfl ?_
       refine W_guard_yes rfl ?_
       refine W_lenv rfl Go.Proofs.Try.underlying49 rfl h0.ln ?_
       refine W_guard_yes rfl ?_
       refine W_gtr rfl rfl rfl ?_
       refine W_guard_yes rfl ?_
       refine W_eqlb rfl Go.Proofs.Try.underlying4 rfl rfl ?_
       refine W_pick_t rfl rfl rfl ?_
       refine W_move rfl rfl ?_
       refine W_known (t := 121) false rfl hb9 ?_
       refine W_guard_no rfl rfl rfl rfl rfl ?_
       refine W_pick_f rfl rfl rfl ?_
       refine W_assign rfl rfl ?_
       refine W_nil ?_
       exact N_join _ ⟨rfl, F5, (Frz.le.refl _), hS5⟩ ⟨(look_bool rfl (by first | rfl | (rw [hb9, hb8]; first | done | rfl) | simp [hb8, hb9])), trivial⟩
     ·
      refine C_region ?_
      refine W_move rfl rfl ?_
      refine W_lenv rfl Go.Proofs.Try.underlying49 rfl (hS5.rowLn (k := 0) rfl) ?_
      refine W_move rfl rfl ?_
      refine W_lenv rfl Go.Proofs.Try.underlying49 rfl h0.ln ?_
      refine W_leq rfl rfl rfl ?_
      refine W_move rfl rfl ?_
      refine W_known (t := 112) false rfl hb8 ?_
      refine W_guard_no rfl rfl rfl rfl rfl ?_
      refine W_guard_no rfl rfl rfl rfl rfl ?_
      refine W_guard_no rfl rfl rfl rfl rfl ?_
      refine W_guard_no rfl rfl rfl rfl rfl ?_
      refine W_guard_no rfl rfl rfl rfl rfl ?_
      refine W_guard_no rfl rfl rfl rfl rfl ?_
      refine W_guard_no rfl rfl rfl rfl rfl ?_
      refine W_pick_f rfl rfl rfl ?_
      refine W_move rfl rfl ?_
      refine W_guard_no rfl rfl rfl rfl rfl ?_
      refine W_pick_f rfl rfl rfl ?_
      refine W_assign rfl rfl ?_
      refine W_nil ?_
      exact N_join _ ⟨rfl, F5, (Frz.le.refl _), hS5⟩ ⟨(look_bool rfl (by first | rfl | (rw [hb8]; first | done | rfl) | simp [hb8])), trivial⟩
    rintro E w7 ⟨rfl, F7, le7, hS7⟩
    refine N_code ?_
    obtain rfl := Option.some.inj H
    refine C_ret rfl rfl ?_
    exact ⟨F7, rfl, hS7.pick [] (by decide)⟩

end Go.Wk.Lf
