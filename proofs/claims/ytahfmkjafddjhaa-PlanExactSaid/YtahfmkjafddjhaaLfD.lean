import Derived.Test.YtahfmkjafddjhaaLfC
namespace Go.Wk.Lf
open Go.Proofs Go.RowKit
set_option linter.unusedVariables false
set_option linter.unusedSimpArgs false

def cellarerlaw21_PlanSorts.k2 (x0 : List Loc) (r2 : (List Loc)) : Option Bool :=
  bd (only (decide ((r2.length : Int) ≤ (x0.length : Int)) && (decide (0 < (r2.length : Int)) == decide (0 < (x0.length : Int)))) (cellarerlaw21_wakes) false) fun r6 =>
  some ((decide ((r2.length : Int) ≤ (x0.length : Int)) && (decide (0 < (r2.length : Int)) == decide (0 < (x0.length : Int)))) && r6)


def cellarerlaw21_PlanSorts.k4 (i13 : Int) (rec14 : Int → Option Bool) : Option Bool :=
  rec14 (wr (i13 + 1))


def cellarerlaw21_PlanSorts.k5 (x0 : List Loc) (i13 : Int) (rec14 : Int → Option Bool) (b18 : Bool) : Option Bool :=
  bd (only (!(!b18)) (ix x0 i13) (Loc.mk 0 0 0 0)) fun x19 =>
  bd (only (!(!b18)) (plan_Ahead x19 x19) false) fun r21 =>
  bd (only ((!((!b18) || r21)) && decide (0 < i13)) (ix x0 i13) (Loc.mk 0 0 0 0)) fun x22 =>
  bd (only ((!((!b18) || r21)) && decide (0 < i13)) (ix x0 (wr (i13 - 1))) (Loc.mk 0 0 0 0)) fun x24 =>
  bd (only ((!((!b18) || r21)) && decide (0 < i13)) (plan_Ahead x22 x24) false) fun r26 =>
  bd (only ((!((!b18) || r21)) && decide (0 < i13)) (plan_Ahead x24 x22) false) fun r27 =>
  bd (only ((!((!b18) || r21)) && (decide (0 < i13) && (r26 == r27))) (ix x0 i13) (Loc.mk 0 0 0 0)) fun x28 =>
  bd (only ((!((!b18) || r21)) && (decide (0 < i13) && (r26 == r27))) (ix x0 (wr (i13 - 1))) (Loc.mk 0 0 0 0)) fun x30 =>
  bd (only ((!((!b18) || r21)) && (decide (0 < i13) && (r26 == r27))) (cellarerkeep_Loc x28 x30) false) fun r32 =>
  if (((!b18) || r21) || ((decide (0 < i13) && (r26 == r27)) && (!r32))) then
    some false
  else
    cellarerlaw21_PlanSorts.k4 i13 rec14


def cellarerlaw21_PlanSorts.l6 (x0 : List Loc) (r2 : (List Loc)) (i13 : Int) (rec14 : Int → Option Bool) (rec345 : (Bool × Int) → Option Bool) : (Bool × Int) → Option Bool
  | (b343, i344) =>
    if decide (i344 < (r2.length : Int)) then
      bd (only (!b343) (ix r2 i344) (Loc.mk 0 0 0 0)) fun x347 =>
      bd (only (!b343) (ix x0 i13) (Loc.mk 0 0 0 0)) fun x349 =>
      bd (only (!b343) (cellarerkeep_Loc x347 x349) false) fun r351 =>
      rec345 ((b343 || r351), wr (i344 + 1))
    else
      cellarerlaw21_PlanSorts.k5 x0 i13 rec14 b343


def cellarerlaw21_PlanSorts.l3 (x0 : List Loc) (r2 : (List Loc)) (rec14 : Int → Option Bool) : Int → Option Bool
  | i13 =>
    if decide (i13 < (x0.length : Int)) then
      loop (cellarerlaw21_PlanSorts.l6 x0 r2 i13 rec14) (false, 0)
    else
      cellarerlaw21_PlanSorts.k2 x0 r2


def cellarerlaw21_PlanSorts.k1 (x0 : List Loc) (r2 : (List Loc)) : Option Bool :=
  loop (cellarerlaw21_PlanSorts.l3 x0 r2) 0


def cellarerlaw21_PlanSorts.l7 (x0 : List Loc) (r2 : (List Loc)) (rec386 : Int → Option Bool) : Int → Option Bool
  | i385 =>
    if decide (i385 < (r2.length : Int)) then
      bd (ix r2 (wr (i385 - 1))) fun x388 =>
      bd (ix r2 i385) fun x390 =>
      bd (plan_Ahead x388 x390) fun r392 =>
      if (!r392) then
        some false
      else
        rec386 (wr (i385 + 1))
    else
      cellarerlaw21_PlanSorts.k1 x0 r2

def cellarerlaw21_PlanSorts (x0 : List Loc) : Option Bool :=
  if decide (60 < (x0.length : Int)) then
    some true
  else
    bd (plan_Sort x0) fun r2 =>
    loop (cellarerlaw21_PlanSorts.l7 x0 r2) 1

theorem cellarerlaw21_PlanSorts_ok {F : Frz} {w : World} {x0 : List Loc} {r : Bool} {v0 : Value} (hA : Agree F w.heap) (h0 : SlF Loc.t F v0 x0) (H : cellarerlaw21_PlanSorts x0 = some r) : Ret Try.prog 10 #[v0] w fun v w' => ∃ (F' : Frz), v = .bool r ∧ St [] w F F' [] w' := by
 refine Ret_of (args := [v0]) Go.Proofs.Try.func10 rfl rfl ?_
 change C _ _ _ _ [(0, v0)] _
 have hS := St.entry hA
 dsimp only [cellarerlaw21_PlanSorts] at H
 refine C_seq ?_
 refine C_region ?_
 refine W_assign rfl rfl ?_
 refine W_nil ?_
 refine N_code ?_
 refine C_seq ?_
 refine C_seq ?_
 refine C_region ?_
 refine W_move rfl rfl ?_
 refine W_lenv rfl Go.Proofs.Try.underlying49 rfl h0.ln ?_
 refine W_gtr rfl rfl rfl ?_
 refine W_nil ?_
 refine N_code ?_
 refine C_cond rfl (fun hc1 => ?_) (fun hc1 => ?_)
 ·
  rw [if_t hc1] at H
  refine C_seq ?_
  refine C_region ?_
  refine W_assign rfl rfl ?_
  refine W_nil ?_
  refine N_code ?_
  obtain rfl := Option.some.inj H
  refine C_ret rfl rfl ?_
  exact ⟨F, rfl, hS⟩
 ·
  rw [if_f hc1] at H
  refine C_skip ?_
  refine N_code ?_
  refine C_seq ?_
  obtain ⟨r2, hr2, H⟩ := bd_some H
  refine C_region ?_
  refine W_move rfl rfl ?_
  refine W_call rfl Ty.named29 rfl (plan_Sort_ok hS.agree h0 hr2) ?_
  rintro ur2_0 w3 ⟨Fr2, _, rfl, hT3⟩
  have hS3 := hS.call hT3
  have ler2 := hT3.ext
  refine W_assign rfl rfl ?_
  refine W_nil ?_
  refine N_code ?_
  refine C_seq_join (fun E wq => cellarerlaw21_PlanSorts.k1 x0 r2 = some r ∧ ∃ (F4 : Frz), E = [(0, v0), (3, ur2_0)] ∧ Fr2.le F4 ∧ St [] w F F4 [.row Loc.t 37 ur2_0 r2] wq) ?_ ?_
  ·
   refine C_seq ?_
   refine C_region ?_
   refine W_assign rfl rfl ?_
   refine W_nil ?_
   refine N_code ?_
   refine C_block ?_
   refine C_loopM (fun (s : Int) E wq => ∃ (F384 : Frz), E = [(0, v0), (3, ur2_0), (4, .int .i64 s)] ∧ Fr2.le F384 ∧ St [] w F F384 [.row Loc.t 37 ur2_0 r2] wq) H ?_ ?_
   ·
    exact ⟨_, ⟨Fr2, rfl, (Frz.le.refl _), hS3⟩, ⟨rfl, rfl, rfl, trivial⟩⟩
   ·
    rintro rec386 i385 E w384 hI H
    try dsimp only at hI
    obtain ⟨F384, rfl, le384, hS384⟩ := hI
    dsimp only [cellarerlaw21_PlanSorts.l7] at H
    refine C_seq ?_
    refine C_seq ?_
    refine C_region ?_
    refine W_move rfl rfl ?_
    refine W_move rfl rfl ?_
    refine W_lenv rfl Go.Proofs.Try.underlying49 rfl (hS384.rowLn (k := 0) rfl) ?_
    refine W_lss rfl rfl rfl ?_
    refine W_nil ?_
    refine N_code ?_
    refine C_cond rfl (fun hc387 => ?_) (fun hc387 => ?_)
    ·
     rw [if_t hc387] at H
     refine C_skip ?_
     refine N_code ?_
     refine C_seq ?_
     refine C_block ?_
     refine C_seq ?_
     obtain ⟨x388, hx388, H⟩ := bd_some H
     obtain ⟨x390, hx390, H⟩ := bd_some H
     obtain ⟨r392, hr392, H⟩ := bd_some H
     obtain ⟨hp393, hy393⟩ := ix_some hx388
     obtain ⟨cs393, hr393, he393⟩ := hS384.rowAt (k := 0) rfl hy393
     obtain rfl := hr393
     replace he393 : El _ _ 4 _ _ := he393
     obtain ⟨hp394, hy394⟩ := ix_some hx390
     obtain ⟨cs394, hr394, he394⟩ := hS384.rowAt (k := 0) rfl hy394
     obtain rfl := hr394
     replace he394 : El _ _ 4 _ _ := he394
     apply C_draw 10 [[], [], [1], [0, 2], [3], [], [], [5, 6], [7], [4, 8]] [.val (ur2_0), .val (.int .i64 i385), .val (.int .i64 (wr (i385 - 1))), .val (elp ur2_0 ((wr (i385 - 1)).toNat * 4)), .val (.agg (Loc.cells x388).toArray), .val (ur2_0), .val (.int .i64 i385), .val (elp ur2_0 (i385.toNat * 4)), .val (.agg (Loc.cells x390).toArray), .val (.bool r392)] Ty.mixed rfl rfl (by kernel_rfl) (by kernel_rfl) rfl
     ·
      refine ⟨?_, ?_, ?_, ?_, ?_, ?_, ?_, ?_, ?_, ?_, trivial⟩
      ·
       intro w395 vq395 hB395 hH395
       have hS395 := hS384.below hB395
       refine W_move rfl rfl ?_
       refine W_nil ?_
       exact N_step rfl rfl (Below.refl _ _)
      ·
       intro w396 vq396 hB396 hH396
       have hS396 := hS384.below hB396
       refine W_move rfl rfl ?_
       refine W_nil ?_
       exact N_step rfl rfl (Below.refl _ _)
      ·
       intro w397 vq397 hB397 hH397
       have hS397 := hS384.below hB397
       refine W_subi rfl rfl rfl rfl ?_
       refine W_nil ?_
       exact N_step rfl rfl (Below.refl _ _)
      ·
       intro w398 vq398 hB398 hH398
       have hS398 := hS384.below hB398
       refine W_ix rfl Go.Proofs.Try.underlying49 Ty.cells37 Ty.info37 rfl rfl (he393.below hB398) hp393 rfl ?_
       refine W_nil ?_
       exact N_step rfl rfl (Below.refl _ _)
      ·
       intro w399 vq399 hB399 hH399
       have hS399 := hS384.below hB399
       refine W_ldg 0 ((Loc.cells x388)) rfl Ty.agg37 Ty.size37 rfl (he393.below hB399) (by omega) (fun q u h => sub_at (post := []) rfl h) ?_
       refine W_nil ?_
       exact N_step rfl rfl (Below.refl _ _)
      ·
       intro w400 vq400 hB400 hH400
       have hS400 := hS384.below hB400
       refine W_move rfl rfl ?_
       refine W_nil ?_
       exact N_step rfl rfl (Below.refl _ _)
      ·
       intro w401 vq401 hB401 hH401
       have hS401 := hS384.below hB401
       refine W_move rfl rfl ?_
       refine W_nil ?_
       exact N_step rfl rfl (Below.refl _ _)
      ·
       intro w402 vq402 hB402 hH402
       have hS402 := hS384.below hB402
       refine W_ix rfl Go.Proofs.Try.underlying49 Ty.cells37 Ty.info37 rfl rfl (he394.below hB402) hp394 rfl ?_
       refine W_nil ?_
       exact N_step rfl rfl (Below.refl _ _)
      ·
       intro w403 vq403 hB403 hH403
       have hS403 := hS384.below hB403
       refine W_ldg 0 ((Loc.cells x390)) rfl Ty.agg37 Ty.size37 rfl (he394.below hB403) (by omega) (fun q u h => sub_at (post := []) rfl h) ?_
       refine W_nil ?_
       exact N_step rfl rfl (Below.refl _ _)
      ·
       intro w404 vq404 hB404 hH404
       have hS404 := hS384.below hB404
       refine W_call rfl Ty.named31 rfl (plan_Ahead_ok hS404.agree hr392) ?_
       rintro v405 w405 ⟨Fr392, rfl, hT405⟩
       have hS405 := hS404.lent hT405
       refine W_nil ?_
       exact N_step rfl rfl hT405.below0
     intro w406 vq406 hB406 hH406
     have hS406 := hS384.below hB406
     refine W_not rfl rfl ?_
     refine W_nil ?_
     refine N_code ?_
     refine C_cond rfl (fun hc407 => ?_) (fun hc407 => ?_)
     ·
      rw [if_t hc407] at H
      refine C_seq ?_
      refine C_region ?_
      refine W_assign rfl rfl ?_
      refine W_nil ?_
      refine N_code ?_
      obtain rfl := Option.some.inj H
      refine C_ret rfl rfl ?_
      exact ⟨F384, rfl, hS406.pick [] (by decide)⟩
     ·
      rw [if_f hc407] at H
      refine C_skip ?_
      refine N_block ?_
      refine N_code ?_
      refine C_region ?_
      refine W_move rfl rfl ?_
      refine W_add rfl rfl rfl rfl ?_
      refine W_assign rfl rfl ?_
      refine W_nil ?_
      exact N_againM (wr (i385 + 1)) _ H ⟨F384, rfl, le384, hS406⟩ ⟨rfl, rfl, rfl, trivial⟩
    ·
     rw [if_f hc387] at H
     refine C_exit _ rfl ?_
     exact N_join _ ⟨H, ⟨F384, rfl, le384, hS384⟩⟩ ⟨rfl, rfl, trivial⟩
  ·
   rintro E w4 ⟨H, F4, rfl, le4, hS4⟩
   dsimp only [cellarerlaw21_PlanSorts.k1] at H
   refine C_seq_join (fun E wq => cellarerlaw21_PlanSorts.k2 x0 r2 = some r ∧ ∃ (F5 : Frz), E = [(0, v0), (3, ur2_0)] ∧ F4.le F5 ∧ St [] w F F5 [.row Loc.t 37 ur2_0 r2] wq) ?_ ?_
   ·
    refine C_seq ?_
    refine C_region ?_
    refine W_assign rfl rfl ?_
    refine W_nil ?_
    refine N_code ?_
    refine C_block ?_
    refine C_loopM (fun (s : Int) E wq => ∃ (F12 : Frz), E = [(0, v0), (3, ur2_0), (5, .int .i64 s)] ∧ F4.le F12 ∧ St [] w F F12 [.row Loc.t 37 ur2_0 r2] wq) H ?_ ?_
    ·
     exact ⟨_, ⟨F4, rfl, (Frz.le.refl _), hS4⟩, ⟨rfl, rfl, rfl, trivial⟩⟩
    ·
     rintro rec14 i13 E w12 hI H
     try dsimp only at hI
     obtain ⟨F12, rfl, le12, hS12⟩ := hI
     dsimp only [cellarerlaw21_PlanSorts.l3] at H
     refine C_seq ?_
     refine C_seq ?_
     refine C_region ?_
     refine W_move rfl rfl ?_
     refine W_move rfl rfl ?_
     refine W_lenv rfl Go.Proofs.Try.underlying49 rfl h0.ln ?_
     refine W_lss rfl rfl rfl ?_
     refine W_nil ?_
     refine N_code ?_
     refine C_cond rfl (fun hc15 => ?_) (fun hc15 => ?_)
     ·
      rw [if_t hc15] at H
      refine C_skip ?_
      refine N_code ?_
      refine C_seq_join (fun E wq => cellarerlaw21_PlanSorts.k4 i13 rec14 = some r ∧ ∃ (F16 : Frz), E = [(0, v0), (3, ur2_0), (5, .int .i64 i13)] ∧ F12.le F16 ∧ St [] w F F16 [.row Loc.t 37 ur2_0 r2] wq) ?_ ?_
      ·
       refine C_block ?_
       refine C_seq ?_
       refine C_region ?_
       refine W_assign rfl rfl ?_
       refine W_nil ?_
       refine N_code ?_
       refine C_seq_join (fun E wq => ∃ b18 : Bool, cellarerlaw21_PlanSorts.k5 x0 i13 rec14 b18 = some r ∧ ∃ (F17 : Frz), E = [(0, v0), (3, ur2_0), (5, .int .i64 i13), (6, .bool b18)] ∧ F12.le F17 ∧ St [] w F F17 [.row Loc.t 37 ur2_0 r2] wq) ?_ ?_
       ·
        refine C_seq ?_
        refine C_region ?_
        refine W_assign rfl rfl ?_
        refine W_nil ?_
        refine N_code ?_
        refine C_block ?_
        refine C_loopM (fun (s : Bool × Int) E wq => ∃ (F342 : Frz), E = [(0, v0), (3, ur2_0), (5, .int .i64 i13), (6, .bool s.1), (7, .int .i64 s.2)] ∧ F12.le F342 ∧ St [] w F F342 [.row Loc.t 37 ur2_0 r2] wq) H ?_ ?_
        ·
         exact ⟨_, ⟨F12, rfl, (Frz.le.refl _), hS12⟩, ⟨rfl, rfl, rfl, rfl, rfl, trivial⟩⟩
        ·
         rintro rec345 ⟨b343, i344⟩ E w342 hI H
         try dsimp only at hI
         obtain ⟨F342, rfl, le342, hS342⟩ := hI
         dsimp only [cellarerlaw21_PlanSorts.l6] at H
         refine C_seq ?_
         refine C_seq ?_
         refine C_region ?_
         refine W_move rfl rfl ?_
         refine W_move rfl rfl ?_
         refine W_lenv rfl Go.Proofs.Try.underlying49 rfl (hS342.rowLn (k := 0) rfl) ?_
         refine W_lss rfl rfl rfl ?_
         refine W_nil ?_
         refine N_code ?_
         refine C_cond rfl (fun hc346 => ?_) (fun hc346 => ?_)
         ·
          rw [if_t hc346] at H
          refine C_skip ?_
          refine N_code ?_
          refine C_seq ?_
          refine C_block ?_
          obtain ⟨x347, hx347, H⟩ := bd_some H
          obtain ⟨x349, hx349, H⟩ := bd_some H
          obtain ⟨r351, hr351, H⟩ := bd_some H
          refine C_join (fun E wq => E = [(0, v0), (3, ur2_0), (5, .int .i64 i13), (6, .bool (b343 || r351)), (7, .int .i64 i344)] ∧ ∃ F352 : Frz, F342.le F352 ∧ St [] w F F352 [.row Loc.t 37 ur2_0 r2] wq) ?_ ?_
          ·
           rcases Bool.eq_false_or_eq_true b343 with hb353 | hb353
           ·
            apply C_draw 11 [[], [0], [1], [1], [2, 3, 1], [4, 1], [1], [1], [6, 7, 1], [8, 1], [5, 9, 1]] [.val (.bool b343), .val (.bool true), .val undef, .val undef, .val undef, .val undef, .val undef, .val undef, .val undef, .val undef, .val undef] Ty.mixed rfl rfl (by kernel_rfl) (by kernel_rfl) rfl
            ·
             refine ⟨?_, ?_, ?_, ?_, ?_, ?_, ?_, ?_, ?_, ?_, ?_, trivial⟩
             ·
              intro w354 vq354 hB354 hH354
              have hS354 := hS342.below hB354
              refine W_move rfl rfl ?_
              refine W_nil ?_
              exact N_step rfl rfl (Below.refl _ _)
             ·
              intro w355 vq355 hB355 hH355
              have hS355 := hS342.below hB355
              refine W_move rfl rfl ?_
              refine W_nil ?_
              exact N_step rfl (congrArg Value.bool hb353) (Below.refl _ _)
             ·
              intro w356 vq356 hB356 hH356
              have hS356 := hS342.below hB356
              refine W_guard_no rfl rfl rfl rfl rfl ?_
              refine W_nil ?_
              exact N_step rfl rfl (Below.refl _ _)
             ·
              intro w357 vq357 hB357 hH357
              have hS357 := hS342.below hB357
              refine W_guard_no rfl rfl rfl rfl rfl ?_
              refine W_nil ?_
              exact N_step rfl rfl (Below.refl _ _)
             ·
              intro w358 vq358 hB358 hH358
              have hS358 := hS342.below hB358
              refine W_guard_no rfl rfl rfl rfl rfl ?_
              refine W_nil ?_
              exact N_step rfl rfl (Below.refl _ _)
             ·
              intro w359 vq359 hB359 hH359
              have hS359 := hS342.below hB359
              refine W_guard_no rfl rfl rfl rfl rfl ?_
              refine W_nil ?_
              exact N_step rfl rfl (Below.refl _ _)
             ·
              intro w360 vq360 hB360 hH360
              have hS360 := hS342.below hB360
              refine W_guard_no rfl rfl rfl rfl rfl ?_
              refine W_nil ?_
              exact N_step rfl rfl (Below.refl _ _)
             ·
              intro w361 vq361 hB361 hH361
              have hS361 := hS342.below hB361
              refine W_guard_no rfl rfl rfl rfl rfl ?_
              refine W_nil ?_
              exact N_step rfl rfl (Below.refl _ _)
             ·
              intro w362 vq362 hB362 hH362
              have hS362 := hS342.below hB362
              refine W_guard_no rfl rfl rfl rfl rfl ?_
              refine W_nil ?_
              exact N_step rfl rfl (Below.refl _ _)
             ·
              intro w363 vq363 hB363 hH363
              have hS363 := hS342.below hB363
              refine W_guard_no rfl rfl rfl rfl rfl ?_
              refine W_nil ?_
              exact N_step rfl rfl (Below.refl _ _)
             ·
              intro w364 vq364 hB364 hH364
              have hS364 := hS342.below hB364
              refine W_guard_no rfl rfl rfl rfl rfl ?_
              refine W_nil ?_
              exact N_step rfl rfl (Below.refl _ _)
            intro w365 vq365 hB365 hH365
            have hS365 := hS342.below hB365
            refine W_pick_t rfl rfl rfl ?_
            refine W_assign rfl rfl ?_
            refine W_nil ?_
            exact N_join _ ⟨rfl, F342, (Frz.le.refl _), hS365⟩ ⟨rfl, rfl, rfl, (look_bool rfl (by first | rfl | (rw [hb353]; first | done | rfl) | simp [hb353])), rfl, trivial⟩
           ·
            have hy366 := hx347
            rw [only_t (by first | rfl | (rw [hb353]; first | done | rfl) | simp [hb353])] at hy366
            obtain ⟨hp367, hy367⟩ := ix_some hy366
            obtain ⟨cs367, hr367, he367⟩ := hS342.rowAt (k := 0) rfl hy367
            obtain rfl := hr367
            replace he367 : El _ _ 4 _ _ := he367
            have hy368 := hx349
            rw [only_t (by first | rfl | (rw [hb353]; first | done | rfl) | simp [hb353])] at hy368
            obtain ⟨hp369, hy369⟩ := ix_some hy368
            obtain ⟨cs369, hr369, he369⟩ := (h0.mono (((ler2.trans le4).trans le12).trans le342)).at_ hy369
            obtain rfl := hr369
            replace he369 : Elf _ _ 4 _ _ := he369
            apply C_draw 11 [[], [0], [1], [1], [2, 3, 1], [4, 1], [1], [1], [6, 7, 1], [8, 1], [5, 9, 1]] [.val (.bool b343), .val (.bool false), .val (ur2_0), .val (.int .i64 i344), .val (elp ur2_0 (i344.toNat * 4)), .val (.agg (Loc.cells x347).toArray), .val (v0), .val (.int .i64 i13), .val (elp v0 (i13.toNat * 4)), .val (.agg (Loc.cells x349).toArray), .val (.bool r351)] Ty.mixed rfl rfl (by kernel_rfl) (by kernel_rfl) rfl
            ·
             refine ⟨?_, ?_, ?_, ?_, ?_, ?_, ?_, ?_, ?_, ?_, ?_, trivial⟩
             ·
              intro w370 vq370 hB370 hH370
              have hS370 := hS342.below hB370
              refine W_move rfl rfl ?_
              refine W_nil ?_
              exact N_step rfl rfl (Below.refl _ _)
             ·
              intro w371 vq371 hB371 hH371
              have hS371 := hS342.below hB371
              refine W_move rfl rfl ?_
              refine W_nil ?_
              exact N_step rfl (congrArg Value.bool hb353) (Below.refl _ _)
             ·
              intro w372 vq372 hB372 hH372
              have hS372 := hS342.below hB372
              refine W_guard_yes rfl ?_
              refine W_move rfl rfl ?_
              refine W_nil ?_
              exact N_step rfl rfl (Below.refl _ _)
             ·
              intro w373 vq373 hB373 hH373
              have hS373 := hS342.below hB373
              refine W_guard_yes rfl ?_
              refine W_move rfl rfl ?_
              refine W_nil ?_
              exact N_step rfl rfl (Below.refl _ _)
             ·
              intro w374 vq374 hB374 hH374
              have hS374 := hS342.below hB374
              refine W_guard_yes rfl ?_
              refine W_ix rfl Go.Proofs.Try.underlying49 Ty.cells37 Ty.info37 rfl rfl (he367.below hB374) hp367 rfl ?_
              refine W_nil ?_
              exact N_step rfl rfl (Below.refl _ _)
             ·
              intro w375 vq375 hB375 hH375
              have hS375 := hS342.below hB375
              refine W_guard_yes rfl ?_
              refine W_ldg 0 ((Loc.cells x347)) rfl Ty.agg37 Ty.size37 rfl (he367.below hB375) (by omega) (fun q u h => sub_at (post := []) rfl h) ?_
              refine W_nil ?_
              exact N_step rfl rfl (Below.refl _ _)
             ·
              intro w376 vq376 hB376 hH376
              have hS376 := hS342.below hB376
              refine W_guard_yes rfl ?_
              refine W_move rfl rfl ?_
              refine W_nil ?_
              exact N_step rfl rfl (Below.refl _ _)
             ·
              intro w377 vq377 hB377 hH377
              have hS377 := hS342.below hB377
              refine W_guard_yes rfl ?_
              refine W_move rfl rfl ?_
              refine W_nil ?_
              exact N_step rfl rfl (Below.refl _ _)
             ·
              intro w378 vq378 hB378 hH378
              have hS378 := hS342.below hB378
              refine W_guard_yes rfl ?_
              refine W_ix rfl Go.Proofs.Try.underlying49 Ty.cells37 Ty.info37 rfl rfl (he369.el hS378.agree) hp369 rfl ?_
              refine W_nil ?_
              exact N_step rfl rfl (Below.refl _ _)
             ·
              intro w379 vq379 hB379 hH379
              have hS379 := hS342.below hB379
              refine W_guard_yes rfl ?_
              refine W_ldg 0 ((Loc.cells x349)) rfl Ty.agg37 Ty.size37 rfl (he369.el hS379.agree) (by omega) (fun q u h => sub_at (post := []) rfl h) ?_
              refine W_nil ?_
              exact N_step rfl rfl (Below.refl _ _)
             ·
              intro w380 vq380 hB380 hH380
              have hS380 := hS342.below hB380
              refine W_guard_yes rfl ?_
              have hy381 := hr351
              rw [only_t (by first | rfl | (rw [hb353]; first | done | rfl) | simp [hb353])] at hy381
              refine W_call rfl Ty.named24 rfl (cellarerkeep_Loc_ok hS380.agree hy381) ?_
              rintro v382 w382 ⟨Fr351, rfl, hT382⟩
              have hS382 := hS380.lent hT382
              refine W_nil ?_
              exact N_step rfl rfl hT382.below0
            intro w383 vq383 hB383 hH383
            have hS383 := hS342.below hB383
            refine W_pick_f rfl rfl rfl ?_
            refine W_assign rfl rfl ?_
            refine W_nil ?_
            exact N_join _ ⟨rfl, F342, (Frz.le.refl _), hS383⟩ ⟨rfl, rfl, rfl, (look_bool rfl (by first | rfl | (rw [hb353]; first | done | rfl) | simp [hb353])), rfl, trivial⟩
          rintro E w352 ⟨rfl, F352, le352, hS352⟩
          refine N_block ?_
          refine N_code ?_
          refine C_region ?_
          refine W_move rfl rfl ?_
          refine W_add rfl rfl rfl rfl ?_
          refine W_assign rfl rfl ?_
          refine W_nil ?_
          exact N_againM ((b343 || r351), wr (i344 + 1)) _ H ⟨F352, rfl, (le342.trans le352), hS352⟩ ⟨rfl, rfl, rfl, rfl, rfl, trivial⟩
         ·
          rw [if_f hc346] at H
          refine C_exit _ rfl ?_
          exact N_join _ ⟨b343, H, ⟨F342, rfl, le342, hS342⟩⟩ ⟨rfl, rfl, rfl, rfl, trivial⟩
       ·
        rintro E w17 ⟨b18, H, F17, rfl, le17, hS17⟩
        dsimp only [cellarerlaw21_PlanSorts.k5] at H
        refine C_seq ?_
        obtain ⟨x19, hx19, H⟩ := bd_some H
        obtain ⟨r21, hr21, H⟩ := bd_some H
        obtain ⟨x22, hx22, H⟩ := bd_some H
        obtain ⟨x24, hx24, H⟩ := bd_some H
        obtain ⟨r26, hr26, H⟩ := bd_some H
        obtain ⟨r27, hr27, H⟩ := bd_some H
        obtain ⟨x28, hx28, H⟩ := bd_some H
        obtain ⟨x30, hx30, H⟩ := bd_some H
        obtain ⟨r32, hr32, H⟩ := bd_some H
        refine C_join (fun E wq => E = [(0, v0), (3, ur2_0), (5, .int .i64 i13), (106, .bool (((!b18) || r21) || ((decide (0 < i13) && (r26 == r27)) && (!r32))))] ∧ ∃ F33 : Frz, F17.le F33 ∧ St [] w F F33 [.row Loc.t 37 ur2_0 r2] wq) ?_ ?_
        ·
         rcases Bool.eq_false_or_eq_true (!b18) with hb34 | hb34
         ·
          apply C_draw 52 [[], [0], [1], [2], [2], [3, 4, 2], [5, 2], [2], [2], [7, 8, 2], [9, 2], [6, 10, 2], [2, 11], [12], [13], [14, 13], [15, 13], [16], [16], [17, 18, 16], [19, 16], [16], [16], [22, 16], [21, 23, 16], [24, 16], [20, 25, 16], [16], [16], [28, 16], [27, 29, 16], [30, 16], [16], [16], [32, 33, 16], [34, 16], [31, 35, 16], [26, 36, 16], [16, 37, 13], [38, 13], [39], [39], [40, 41, 39], [42, 39], [39], [39], [45, 39], [44, 46, 39], [47, 39], [43, 48, 39], [49, 39], [39, 50, 13]] [.val (.bool b18), .val (.bool (!b18)), .val (.bool true), .val undef, .val undef, .val undef, .val undef, .val undef, .val undef, .val undef, .val undef, .val undef, .val (.bool true), .val (.bool true), .val undef, .val undef, .val undef, .val undef, .val undef, .val undef, .val undef, .val undef, .val undef, .val undef, .val undef, .val undef, .val undef, .val undef, .val undef, .val undef, .val undef, .val undef, .val undef, .val undef, .val undef, .val undef, .val undef, .val undef, .val undef, .val undef, .val undef, .val undef, .val undef, .val undef, .val undef, .val undef, .val undef, .val undef, .val undef, .val undef, .val undef, .val undef] Ty.mixed rfl rfl (by kernel_rfl) (by kernel_rfl) rfl
          ·
           refine ⟨?_, ?_, ?_, ?_, ?_, ?_, ?_, ?_, ?_, ?_, ?_, ?_, ?_, ?_, ?_, ?_, ?_, ?_, ?_, ?_, ?_, ?_, ?_, ?_, ?_, ?_, ?_, ?_, ?_, ?_, ?_, ?_, ?_, ?_, ?_, ?_, ?_, ?_, ?_, ?_, ?_, ?_, ?_, ?_, ?_, ?_, ?_, ?_, ?_, ?_, ?_, ?_, trivial⟩
           ·
            intro w35 vq35 hB35 hH35
            have hS35 := hS17.below hB35
            refine W_move rfl rfl ?_
            refine W_nil ?_
            exact N_step rfl rfl (Below.refl _ _)
           ·
            intro w36 vq36 hB36 hH36
            have hS36 := hS17.below hB36
            refine W_not rfl rfl ?_
            refine W_nil ?_
            exact N_step rfl rfl (Below.refl _ _)
           ·
            intro w37 vq37 hB37 hH37
            have hS37 := hS17.below hB37
            refine W_move rfl rfl ?_
            refine W_nil ?_
            exact N_step rfl (congrArg Value.bool hb34) (Below.refl _ _)
           ·
            intro w38 vq38 hB38 hH38
            have hS38 := hS17.below hB38
            refine W_guard_no rfl rfl rfl rfl rfl ?_
            refine W_nil ?_
            exact N_step rfl rfl (Below.refl _ _)
           ·
            intro w39 vq39 hB39 hH39
            have hS39 := hS17.below hB39
            refine W_guard_no rfl rfl rfl rfl rfl ?_
            refine W_nil ?_
            exact N_step rfl rfl (Below.refl _ _)
           ·
            intro w40 vq40 hB40 hH40
            have hS40 := hS17.below hB40
            refine W_guard_no rfl rfl rfl rfl rfl ?_
            refine W_nil ?_
            exact N_step rfl rfl (Below.refl _ _)
           ·
            intro w41 vq41 hB41 hH41
            have hS41 := hS17.below hB41
            refine W_guard_no rfl rfl rfl rfl rfl ?_
            refine W_nil ?_
            exact N_step rfl rfl (Below.refl _ _)
           ·
            intro w42 vq42 hB42 hH42
            have hS42 := hS17.below hB42
            refine W_guard_no rfl rfl rfl rfl rfl ?_
            refine W_nil ?_
            exact N_step rfl rfl (Below.refl _ _)
           ·
            intro w43 vq43 hB43 hH43
            have hS43 := hS17.below hB43
            refine W_guard_no rfl rfl rfl rfl rfl ?_
            refine W_nil ?_
            exact N_step rfl rfl (Below.refl _ _)
           ·
            intro w44 vq44 hB44 hH44
            have hS44 := hS17.below hB44
            refine W_guard_no rfl rfl rfl rfl rfl ?_
            refine W_nil ?_
            exact N_step rfl rfl (Below.refl _ _)
           ·
            intro w45 vq45 hB45 hH45
            have hS45 := hS17.below hB45
            refine W_guard_no rfl rfl rfl rfl rfl ?_
            refine W_nil ?_
            exact N_step rfl rfl (Below.refl _ _)
           ·
            intro w46 vq46 hB46 hH46
            have hS46 := hS17.below hB46
            refine W_guard_no rfl rfl rfl rfl rfl ?_
            refine W_nil ?_
            exact N_step rfl rfl (Below.refl _ _)
           ·
            intro w47 vq47 hB47 hH47
            have hS47 := hS17.below hB47
            refine W_pick_t rfl rfl rfl ?_
            refine W_nil ?_
            exact N_step rfl rfl (Below.refl _ _)
           ·
            intro w48 vq48 hB48 hH48
            have hS48 := hS17.below hB48
            refine W_move rfl rfl ?_
            refine W_nil ?_
            exact N_step rfl rfl (Below.refl _ _)
           ·
            intro w49 vq49 hB49 hH49
            have hS49 := hS17.below hB49
            refine W_guard_no rfl rfl rfl rfl rfl ?_
            refine W_nil ?_
            exact N_step rfl rfl (Below.refl _ _)
           ·
            intro w50 vq50 hB50 hH50
            have hS50 := hS17.below hB50
            refine W_guard_no rfl rfl rfl rfl rfl ?_
            refine W_nil ?_
            exact N_step rfl rfl (Below.refl _ _)
           ·
            intro w51 vq51 hB51 hH51
            have hS51 := hS17.below hB51
            refine W_guard_no rfl rfl rfl rfl rfl ?_
            refine W_nil ?_
            exact N_step rfl rfl (Below.refl _ _)
           ·
            intro w52 vq52 hB52 hH52
            have hS52 := hS17.below hB52
            refine W_guard_un rfl rfl rfl rfl ?_
            refine W_nil ?_
            exact N_step rfl rfl (Below.refl _ _)
           ·
            intro w53 vq53 hB53 hH53
            have hS53 := hS17.below hB53
            refine W_guard_un rfl rfl rfl rfl ?_
            refine W_nil ?_
            exact N_step rfl rfl (Below.refl _ _)
           ·
            intro w54 vq54 hB54 hH54
            have hS54 := hS17.below hB54
            refine W_guard_un rfl rfl rfl rfl ?_
            refine W_nil ?_
            exact N_step rfl rfl (Below.refl _ _)
           ·
            intro w55 vq55 hB55 hH55
            have hS55 := hS17.below hB55
            refine W_guard_un rfl rfl rfl rfl ?_
            refine W_nil ?_
            exact N_step rfl rfl (Below.refl _ _)
           ·
            intro w56 vq56 hB56 hH56
            have hS56 := hS17.below hB56
            refine W_guard_un rfl rfl rfl rfl ?_
            refine W_nil ?_
            exact N_step rfl rfl (Below.refl _ _)
           ·
            intro w57 vq57 hB57 hH57
            have hS57 := hS17.below hB57
            refine W_guard_un rfl rfl rfl rfl ?_
            refine W_nil ?_
            exact N_step rfl rfl (Below.refl _ _)
           ·
            intro w58 vq58 hB58 hH58
            have hS58 := hS17.below hB58
            refine W_guard_un rfl rfl rfl rfl ?_
            refine W_nil ?_
            exact N_step rfl rfl (Below.refl _ _)
           ·
            intro w59 vq59 hB59 hH59
            have hS59 := hS17.below hB59
            refine W_guard_un rfl rfl rfl rfl ?_
            refine W_nil ?_
            exact N_step rfl rfl (Below.refl _ _)
           ·
            intro w60 vq60 hB60 hH60
            have hS60 := hS17.below hB60
            refine W_guard_un rfl rfl rfl rfl ?_
            refine W_nil ?_
            exact N_step rfl rfl (Below.refl _ _)
           ·
            intro w61 vq61 hB61 hH61
            have hS61 := hS17.below hB61
            refine W_guard_un rfl rfl rfl rfl ?_
            refine W_nil ?_
            exact N_step rfl rfl (Below.refl _ _)
           ·
            intro w62 vq62 hB62 hH62
            have hS62 := hS17.below hB62
            refine W_guard_un rfl rfl rfl rfl ?_
            refine W_nil ?_
            exact N_step rfl rfl (Below.refl _ _)
           ·
            intro w63 vq63 hB63 hH63
            have hS63 := hS17.below hB63
            refine W_guard_un rfl rfl rfl rfl ?_
            refine W_nil ?_
            exact N_step rfl rfl (Below.refl _ _)
           ·
            intro w64 vq64 hB64 hH64
            have hS64 := hS17.below hB64
            refine W_guard_un rfl rfl rfl rfl ?_
            refine W_nil ?_
            exact N_step rfl rfl (Below.refl _ _)
           ·
            intro w65 vq65 hB65 hH65
            have hS65 := hS17.below hB65
            refine W_guard_un rfl rfl rfl rfl ?_
            refine W_nil ?_
            exact N_step rfl rfl (Below.refl _ _)
           ·
            intro w66 vq66 hB66 hH66
            have hS66 := hS17.below hB66
            refine W_guard_un rfl rfl rfl rfl ?_
            refine W_nil ?_
            exact N_step rfl rfl (Below.refl _ _)
           ·
            intro w67 vq67 hB67 hH67
            have hS67 := hS17.below hB67
            refine W_guard_un rfl rfl rfl rfl ?_
            refine W_nil ?_
            exact N_step rfl rfl (Below.refl _ _)
           ·
            intro w68 vq68 hB68 hH68
            have hS68 := hS17.below hB68
            refine W_guard_un rfl rfl rfl rfl ?_
            refine W_nil ?_
            exact N_step rfl rfl (Below.refl _ _)
           ·
            intro w69 vq69 hB69 hH69
            have hS69 := hS17.below hB69
            refine W_guard_un rfl rfl rfl rfl ?_
            refine W_nil ?_
            exact N_step rfl rfl (Below.refl _ _)
           ·
            intro w70 vq70 hB70 hH70
            have hS70 := hS17.below hB70
            refine W_guard_un rfl rfl rfl rfl ?_
            refine W_nil ?_
            exact N_step rfl rfl (Below.refl _ _)
           ·
            intro w71 vq71 hB71 hH71
            have hS71 := hS17.below hB71
            refine W_guard_un rfl rfl rfl rfl ?_
            refine W_nil ?_
            exact N_step rfl rfl (Below.refl _ _)
           ·
            intro w72 vq72 hB72 hH72
            have hS72 := hS17.below hB72
            refine W_guard_un rfl rfl rfl rfl ?_
            refine W_nil ?_
            exact N_step rfl rfl (Below.refl _ _)
           ·
            intro w73 vq73 hB73 hH73
            have hS73 := hS17.below hB73
            refine W_guard_no rfl rfl rfl rfl rfl ?_
            refine W_nil ?_
            exact N_step rfl rfl (Below.refl _ _)
           ·
            intro w74 vq74 hB74 hH74
            have hS74 := hS17.below hB74
            refine W_guard_no rfl rfl rfl rfl rfl ?_
            refine W_nil ?_
            exact N_step rfl rfl (Below.refl _ _)
           ·
            intro w75 vq75 hB75 hH75
            have hS75 := hS17.below hB75
            refine W_guard_un rfl rfl rfl rfl ?_
            refine W_nil ?_
            exact N_step rfl rfl (Below.refl _ _)
           ·
            intro w76 vq76 hB76 hH76
            have hS76 := hS17.below hB76
            refine W_guard_un rfl rfl rfl rfl ?_
            refine W_nil ?_
            exact N_step rfl rfl (Below.refl _ _)
           ·
            intro w77 vq77 hB77 hH77
            have hS77 := hS17.below hB77
            refine W_guard_un rfl rfl rfl rfl ?_
            refine W_nil ?_
            exact N_step rfl rfl (Below.refl _ _)
           ·
            intro w78 vq78 hB78 hH78
            have hS78 := hS17.below hB78
            refine W_guard_un rfl rfl rfl rfl ?_
            refine W_nil ?_
            exact N_step rfl rfl (Below.refl _ _)
           ·
            intro w79 vq79 hB79 hH79
            have hS79 := hS17.below hB79
            refine W_guard_un rfl rfl rfl rfl ?_
            refine W_nil ?_
            exact N_step rfl rfl (Below.refl _ _)
           ·
            intro w80 vq80 hB80 hH80
            have hS80 := hS17.below hB80
            refine W_guard_un rfl rfl rfl rfl ?_
            refine W_nil ?_
            exact N_step rfl rfl (Below.refl _ _)
           ·
            intro w81 vq81 hB81 hH81
            have hS81 := hS17.below hB81
            refine W_guard_un rfl rfl rfl rfl ?_
            refine W_nil ?_
            exact N_step rfl rfl (Below.refl _ _)
           ·
            intro w82 vq82 hB82 hH82
            have hS82 := hS17.below hB82
            refine W_guard_un rfl rfl rfl rfl ?_
            refine W_nil ?_
            exact N_step rfl rfl (Below.refl _ _)
           ·
            intro w83 vq83 hB83 hH83
            have hS83 := hS17.below hB83
            refine W_guard_un rfl rfl rfl rfl ?_
            refine W_nil ?_
            exact N_step rfl rfl (Below.refl _ _)
           ·
            intro w84 vq84 hB84 hH84
            have hS84 := hS17.below hB84
            refine W_guard_un rfl rfl rfl rfl ?_
            refine W_nil ?_
            exact N_step rfl rfl (Below.refl _ _)
           ·
            intro w85 vq85 hB85 hH85
            have hS85 := hS17.below hB85
            refine W_guard_un rfl rfl rfl rfl ?_
            refine W_nil ?_
            exact N_step rfl rfl (Below.refl _ _)
           ·
            intro w86 vq86 hB86 hH86
            have hS86 := hS17.below hB86
            refine W_guard_no rfl rfl rfl rfl rfl ?_
            refine W_nil ?_
            exact N_step rfl rfl (Below.refl _ _)
          intro w87 vq87 hB87 hH87
          have hS87 := hS17.below hB87
          refine W_pick_t rfl rfl rfl ?_
          refine W_nil ?_
          exact N_join _ ⟨rfl, F17, (Frz.le.refl _), hS87⟩ ⟨rfl, rfl, rfl, (look_bool rfl (by first | rfl | (rw [hb34]; first | done | rfl) | simp [hb34])), trivial⟩
         ·
          rcases Bool.eq_false_or_eq_true r21 with hb88 | hb88
          ·
           have hy89 := hx19
           rw [only_t (by first | rfl | (rw [hb34]; first | done | rfl) | simp [hb34, hb88])] at hy89
           obtain ⟨hp90, hy90⟩ := ix_some hy89
           obtain ⟨cs90, hr90, he90⟩ := (h0.mono (((ler2.trans le4).trans le12).trans le17)).at_ hy90
           obtain rfl := hr90
           replace he90 : Elf _ _ 4 _ _ := he90
           apply C_draw 52 [[], [0], [1], [2], [2], [3, 4, 2], [5, 2], [2], [2], [7, 8, 2], [9, 2], [6, 10, 2], [2, 11], [12], [13], [14, 13], [15, 13], [16], [16], [17, 18, 16], [19, 16], [16], [16], [22, 16], [21, 23, 16], [24, 16], [20, 25, 16], [16], [16], [28, 16], [27, 29, 16], [30, 16], [16], [16], [32, 33, 16], [34, 16], [31, 35, 16], [26, 36, 16], [16, 37, 13], [38, 13], [39], [39], [40, 41, 39], [42, 39], [39], [39], [45, 39], [44, 46, 39], [47, 39], [43, 48, 39], [49, 39], [39, 50, 13]] [.val (.bool b18), .val (.bool (!b18)), .val (.bool false), .val (v0), .val (.int .i64 i13), .val (elp v0 (i13.toNat * 4)), .val (.agg (Loc.cells x19).toArray), .val (v0), .val (.int .i64 i13), .val (elp v0 (i13.toNat * 4)), .val (.agg (Loc.cells x19).toArray), .val (.bool r21), .val (.bool r21), .val (.bool true), .val undef, .val undef, .val undef, .val undef, .val undef, .val undef, .val undef, .val undef, .val undef, .val undef, .val undef, .val undef, .val undef, .val undef, .val undef, .val undef, .val undef, .val undef, .val undef, .val undef, .val undef, .val undef, .val undef, .val undef, .val undef, .val undef, .val undef, .val undef, .val undef, .val undef, .val undef, .val undef, .val undef, .val undef, .val undef, .val undef, .val undef, .val undef] Ty.mixed rfl rfl (by kernel_rfl) (by kernel_rfl) rfl
           ·
            refine ⟨?_, ?_, ?_, ?_, ?_, ?_, ?_, ?_, ?_, ?_, ?_, ?_, ?_, ?_, ?_, ?_, ?_, ?_, ?_, ?_, ?_, ?_, ?_, ?_, ?_, ?_, ?_, ?_, ?_, ?_, ?_, ?_, ?_, ?_, ?_, ?_, ?_, ?_, ?_, ?_, ?_, ?_, ?_, ?_, ?_, ?_, ?_, ?_, ?_, ?_, ?_, ?_, trivial⟩
            ·
             intro w91 vq91 hB91 hH91
             have hS91 := hS17.below hB91
             refine W_move rfl rfl ?_
             refine W_nil ?_
             exact N_step rfl rfl (Below.refl _ _)
            ·
             intro w92 vq92 hB92 hH92
             have hS92 := hS17.below hB92
             refine W_not rfl rfl ?_
             refine W_nil ?_
             exact N_step rfl rfl (Below.refl _ _)
            ·
             intro w93 vq93 hB93 hH93
             have hS93 := hS17.below hB93
             refine W_move rfl rfl ?_
             refine W_nil ?_
             exact N_step rfl (congrArg Value.bool hb34) (Below.refl _ _)
            ·
             intro w94 vq94 hB94 hH94
             have hS94 := hS17.below hB94
             refine W_guard_yes rfl ?_
             refine W_move rfl rfl ?_
             refine W_nil ?_
             exact N_step rfl rfl (Below.refl _ _)
            ·
             intro w95 vq95 hB95 hH95
             have hS95 := hS17.below hB95
             refine W_guard_yes rfl ?_
             refine W_move rfl rfl ?_
             refine W_nil ?_
             exact N_step rfl rfl (Below.refl _ _)
            ·
             intro w96 vq96 hB96 hH96
             have hS96 := hS17.below hB96
             refine W_guard_yes rfl ?_
             refine W_ix rfl Go.Proofs.Try.underlying49 Ty.cells37 Ty.info37 rfl rfl (he90.el hS96.agree) hp90 rfl ?_
             refine W_nil ?_
             exact N_step rfl rfl (Below.refl _ _)
            ·
             intro w97 vq97 hB97 hH97
             have hS97 := hS17.below hB97
             refine W_guard_yes rfl ?_
             refine W_ldg 0 ((Loc.cells x19)) rfl Ty.agg37 Ty.size37 rfl (he90.el hS97.agree) (by omega) (fun q u h => sub_at (post := []) rfl h) ?_
             refine W_nil ?_
             exact N_step rfl rfl (Below.refl _ _)
            ·
             intro w98 vq98 hB98 hH98
             have hS98 := hS17.below hB98
             refine W_guard_yes rfl ?_
             refine W_move rfl rfl ?_
             refine W_nil ?_
             exact N_step rfl rfl (Below.refl _ _)
            ·
             intro w99 vq99 hB99 hH99
             have hS99 := hS17.below hB99
             refine W_guard_yes rfl ?_
             refine W_move rfl rfl ?_
             refine W_nil ?_
             exact N_step rfl rfl (Below.refl _ _)
            ·
             intro w100 vq100 hB100 hH100
             have hS100 := hS17.below hB100
             refine W_guard_yes rfl ?_
             refine W_ix rfl Go.Proofs.Try.underlying49 Ty.cells37 Ty.info37 rfl rfl (he90.el hS100.agree) hp90 rfl ?_
             refine W_nil ?_
             exact N_step rfl rfl (Below.refl _ _)
            ·
             intro w101 vq101 hB101 hH101
             have hS101 := hS17.below hB101
             refine W_guard_yes rfl ?_
             refine W_ldg 0 ((Loc.cells x19)) rfl Ty.agg37 Ty.size37 rfl (he90.el hS101.agree) (by omega) (fun q u h => sub_at (post := []) rfl h) ?_
             refine W_nil ?_
             exact N_step rfl rfl (Below.refl _ _)
            ·
             intro w102 vq102 hB102 hH102
             have hS102 := hS17.below hB102
             refine W_guard_yes rfl ?_
             have hy103 := hr21
             rw [only_t (by first | rfl | (rw [hb34]; first | done | rfl) | simp [hb34, hb88])] at hy103
             refine W_call rfl Ty.named31 rfl (plan_Ahead_ok hS102.agree hy103) ?_
             rintro v104 w104 ⟨Fr21, rfl, hT104⟩
             have hS104 := hS102.lent hT104
             refine W_nil ?_
             exact N_step rfl rfl hT104.below0
            ·
             intro w105 vq105 hB105 hH105
             have hS105 := hS17.below hB105
             refine W_pick_f rfl rfl rfl ?_
             refine W_nil ?_
             exact N_step rfl rfl (Below.refl _ _)
            ·
             intro w106 vq106 hB106 hH106
             have hS106 := hS17.below hB106
             refine W_move rfl rfl ?_
             refine W_nil ?_
             exact N_step rfl (congrArg Value.bool hb88) (Below.refl _ _)
            ·
             intro w107 vq107 hB107 hH107
             have hS107 := hS17.below hB107
             refine W_guard_no rfl rfl rfl rfl rfl ?_
             refine W_nil ?_
             exact N_step rfl rfl (Below.refl _ _)
            ·
             intro w108 vq108 hB108 hH108
             have hS108 := hS17.below hB108
             refine W_guard_no rfl rfl rfl rfl rfl ?_
             refine W_nil ?_
             exact N_step rfl rfl (Below.refl _ _)
            ·
             intro w109 vq109 hB109 hH109
             have hS109 := hS17.below hB109
             refine W_guard_no rfl rfl rfl rfl rfl ?_
             refine W_nil ?_
             exact N_step rfl rfl (Below.refl _ _)
            ·
             intro w110 vq110 hB110 hH110
             have hS110 := hS17.below hB110
             refine W_guard_un rfl rfl rfl rfl ?_
             refine W_nil ?_
             exact N_step rfl rfl (Below.refl _ _)
            ·
             intro w111 vq111 hB111 hH111
             have hS111 := hS17.below hB111
             refine W_guard_un rfl rfl rfl rfl ?_
             refine W_nil ?_
             exact N_step rfl rfl (Below.refl _ _)
            ·
             intro w112 vq112 hB112 hH112
             have hS112 := hS17.below hB112
             refine W_guard_un rfl rfl rfl rfl ?_
             refine W_nil ?_
             exact N_step rfl rfl (Below.refl _ _)
            ·
             intro w113 vq113 hB113 hH113
             have hS113 := hS17.below hB113
             refine W_guard_un rfl rfl rfl rfl ?_
             refine W_nil ?_
             exact N_step rfl rfl (Below.refl _ _)
            ·
             intro w114 vq114 hB114 hH114
             have hS114 := hS17.below hB114
             refine W_guard_un rfl rfl rfl rfl ?_
             refine W_nil ?_
             exact N_step rfl rfl (Below.refl _ _)
            ·
             intro w115 vq115 hB115 hH115
             have hS115 := hS17.below hB115
             refine W_guard_un rfl rfl rfl rfl ?_
             refine W_nil ?_
             exact N_step rfl rfl (Below.refl _ _)
            ·
             intro w116 vq116 hB116 hH116
             have hS116 := hS17.below hB116
             refine W_guard_un rfl rfl rfl rfl ?_
             refine W_nil ?_
             exact N_step rfl rfl (Below.refl _ _)
            ·
             intro w117 vq117 hB117 hH117
             have hS117 := hS17.below hB117
             refine W_guard_un rfl rfl rfl rfl ?_
             refine W_nil ?_
             exact N_step rfl rfl (Below.refl _ _)
            ·
             intro w118 vq118 hB118 hH118
             have hS118 := hS17.below hB118
             refine W_guard_un rfl rfl rfl rfl ?_
             refine W_nil ?_
             exact N_step rfl rfl (Below.refl _ _)
            ·
             intro w119 vq119 hB119 hH119
             have hS119 := hS17.below hB119
             refine W_guard_un rfl rfl rfl rfl ?_
             refine W_nil ?_
             exact N_step rfl rfl (Below.refl _ _)
            ·
             intro w120 vq120 hB120 hH120
             have hS120 := hS17.below hB120
             refine W_guard_un rfl rfl rfl rfl ?_
             refine W_nil ?_
             exact N_step rfl rfl (Below.refl _ _)
            ·
             intro w121 vq121 hB121 hH121
             have hS121 := hS17.below hB121
             refine W_guard_un rfl rfl rfl rfl ?_
             refine W_nil ?_
             exact N_step rfl rfl (Below.refl _ _)
            ·
             intro w122 vq122 hB122 hH122
             have hS122 := hS17.below hB122
             refine W_guard_un rfl rfl rfl rfl ?_
             refine W_nil ?_
             exact N_step rfl rfl (Below.refl _ _)
            ·
             intro w123 vq123 hB123 hH123
             have hS123 := hS17.below hB123
             refine W_guard_un rfl rfl rfl rfl ?_
             refine W_nil ?_
             exact N_step rfl rfl (Below.refl _ _)
            ·
             intro w124 vq124 hB124 hH124
             have hS124 := hS17.below hB124
             refine W_guard_un rfl rfl rfl rfl ?_
             refine W_nil ?_
             exact N_step rfl rfl (Below.refl _ _)
            ·
             intro w125 vq125 hB125 hH125
             have hS125 := hS17.below hB125
             refine W_guard_un rfl rfl rfl rfl ?_
             refine W_nil ?_
             exact N_step rfl rfl (Below.refl _ _)
            ·
             intro w126 vq126 hB126 hH126
             have hS126 := hS17.below hB126
             refine W_guard_un rfl rfl rfl rfl ?_
             refine W_nil ?_
             exact N_step rfl rfl (Below.refl _ _)
            ·
             intro w127 vq127 hB127 hH127
             have hS127 := hS17.below hB127
             refine W_guard_un rfl rfl rfl rfl ?_
             refine W_nil ?_
             exact N_step rfl rfl (Below.refl _ _)
            ·
             intro w128 vq128 hB128 hH128
             have hS128 := hS17.below hB128
             refine W_guard_un rfl rfl rfl rfl ?_
             refine W_nil ?_
             exact N_step rfl rfl (Below.refl _ _)
            ·
             intro w129 vq129 hB129 hH129
             have hS129 := hS17.below hB129
             refine W_guard_un rfl rfl rfl rfl ?_
             refine W_nil ?_
             exact N_step rfl rfl (Below.refl _ _)
            ·
             intro w130 vq130 hB130 hH130
             have hS130 := hS17.below hB130
             refine W_guard_un rfl rfl rfl rfl ?_
             refine W_nil ?_
             exact N_step rfl rfl (Below.refl _ _)
            ·
             intro w131 vq131 hB131 hH131
             have hS131 := hS17.below hB131
             refine W_guard_no rfl rfl rfl rfl rfl ?_
             refine W_nil ?_
             exact N_step rfl rfl (Below.refl _ _)
            ·
             intro w132 vq132 hB132 hH132
             have hS132 := hS17.below hB132
             refine W_guard_no rfl rfl rfl rfl rfl ?_
             refine W_nil ?_
             exact N_step rfl rfl (Below.refl _ _)
            ·
             intro w133 vq133 hB133 hH133
             have hS133 := hS17.below hB133
             refine W_guard_un rfl rfl rfl rfl ?_
             refine W_nil ?_
             exact N_step rfl rfl (Below.refl _ _)
            ·
             intro w134 vq134 hB134 hH134
             have hS134 := hS17.below hB134
             refine W_guard_un rfl rfl rfl rfl ?_
             refine W_nil ?_
             exact N_step rfl rfl (Below.refl _ _)
            ·
             intro w135 vq135 hB135 hH135
             have hS135 := hS17.below hB135
             refine W_guard_un rfl rfl rfl rfl ?_
             refine W_nil ?_
             exact N_step rfl rfl (Below.refl _ _)
            ·
             intro w136 vq136 hB136 hH136
             have hS136 := hS17.below hB136
             refine W_guard_un rfl rfl rfl rfl ?_
             refine W_nil ?_
             exact N_step rfl rfl (Below.refl _ _)
            ·
             intro w137 vq137 hB137 hH137
             have hS137 := hS17.below hB137
             refine W_guard_un rfl rfl rfl rfl ?_
             refine W_nil ?_
             exact N_step rfl rfl (Below.refl _ _)
            ·
             intro w138 vq138 hB138 hH138
             have hS138 := hS17.below hB138
             refine W_guard_un rfl rfl rfl rfl ?_
             refine W_nil ?_
             exact N_step rfl rfl (Below.refl _ _)
            ·
             intro w139 vq139 hB139 hH139
             have hS139 := hS17.below hB139
             refine W_guard_un rfl rfl rfl rfl ?_
             refine W_nil ?_
             exact N_step rfl rfl (Below.refl _ _)
            ·
             intro w140 vq140 hB140 hH140
             have hS140 := hS17.below hB140
             refine W_guard_un rfl rfl rfl rfl ?_
             refine W_nil ?_
             exact N_step rfl rfl (Below.refl _ _)
            ·
             intro w141 vq141 hB141 hH141
             have hS141 := hS17.below hB141
             refine W_guard_un rfl rfl rfl rfl ?_
             refine W_nil ?_
             exact N_step rfl rfl (Below.refl _ _)
            ·
             intro w142 vq142 hB142 hH142
             have hS142 := hS17.below hB142
             refine W_guard_un rfl rfl rfl rfl ?_
             refine W_nil ?_
             exact N_step rfl rfl (Below.refl _ _)
            ·
             intro w143 vq143 hB143 hH143
             have hS143 := hS17.below hB143
             refine W_guard_un rfl rfl rfl rfl ?_
             refine W_nil ?_
             exact N_step rfl rfl (Below.refl _ _)
            ·
             intro w144 vq144 hB144 hH144
             have hS144 := hS17.below hB144
             refine W_guard_no rfl rfl rfl rfl rfl ?_
             refine W_nil ?_
             exact N_step rfl rfl (Below.refl _ _)
           intro w145 vq145 hB145 hH145
           have hS145 := hS17.below hB145
           refine W_pick_t rfl rfl rfl ?_
           refine W_nil ?_
           exact N_join _ ⟨rfl, F17, (Frz.le.refl _), hS145⟩ ⟨rfl, rfl, rfl, (look_bool rfl (by first | rfl | (rw [hb34, hb88]; first | done | rfl) | simp [hb34, hb88])), trivial⟩
          ·
           rcases Bool.eq_false_or_eq_true (decide (0 < i13)) with hb146 | hb146
           ·
            rcases Bool.eq_false_or_eq_true (r26 == r27) with hb147 | hb147
            ·
             have hy148 := hx19
             rw [only_t (by first | rfl | (rw [hb34]; first | done | rfl) | simp [hb34, hb88, hb146, hb147])] at hy148
             obtain ⟨hp149, hy149⟩ := ix_some hy148
             obtain ⟨cs149, hr149, he149⟩ := (h0.mono (((ler2.trans le4).trans le12).trans le17)).at_ hy149
             obtain rfl := hr149
             replace he149 : Elf _ _ 4 _ _ := he149
             have hy150 := hx22
             rw [only_t (by first | rfl | (rw [hb146, hb34, hb88]; first | done | rfl) | simp [hb34, hb88, hb146, hb147])] at hy150
             obtain ⟨hp151, hy151⟩ := ix_some hy150
             obtain ⟨cs151, hr151, he151⟩ := (h0.mono (((ler2.trans le4).trans le12).trans le17)).at_ hy151
             obtain rfl := hr151
             replace he151 : Elf _ _ 4 _ _ := he151
             have hy152 := hx24
             rw [only_t (by first | rfl | (rw [hb146, hb34, hb88]; first | done | rfl) | simp [hb34, hb88, hb146, hb147])] at hy152
             obtain ⟨hp153, hy153⟩ := ix_some hy152
             obtain ⟨cs153, hr153, he153⟩ := (h0.mono (((ler2.trans le4).trans le12).trans le17)).at_ hy153
             obtain rfl := hr153
             replace he153 : Elf _ _ 4 _ _ := he153
             have hy154 := hx28
             rw [only_t (by first | rfl | (rw [hb146, hb147, hb34, hb88]; first | done | rfl) | simp [hb34, hb88, hb146, hb147])] at hy154
             obtain ⟨hp155, hy155⟩ := ix_some hy154
             obtain ⟨cs155, hr155, he155⟩ := (h0.mono (((ler2.trans le4).trans le12).trans le17)).at_ hy155
             obtain rfl := hr155
             replace he155 : Elf _ _ 4 _ _ := he155
             have hy156 := hx30
             rw [only_t (by first | rfl | (rw [hb146, hb147, hb34, hb88]; first | done | rfl) | simp [hb34, hb88, hb146, hb147])] at hy156
             obtain ⟨hp157, hy157⟩ := ix_some hy156
             obtain ⟨cs157, hr157, he157⟩ := (h0.mono (((ler2.trans le4).trans le12).trans le17)).at_ hy157
             obtain rfl := hr157
             replace he157 : Elf _ _ 4 _ _ := he157
             apply C_draw 52 [[], [0], [1], [2], [2], [3, 4, 2], [5, 2], [2], [2], [7, 8, 2], [9, 2], [6, 10, 2], [2, 11], [12], [13], [14, 13], [15, 13], [16], [16], [17, 18, 16], [19, 16], [16], [16], [22, 16], [21, 23, 16], [24, 16], [20, 25, 16], [16], [16], [28, 16], [27, 29, 16], [30, 16], [16], [16], [32, 33, 16], [34, 16], [31, 35, 16], [26, 36, 16], [16, 37, 13], [38, 13], [39], [39], [40, 41, 39], [42, 39], [39], [39], [45, 39], [44, 46, 39], [47, 39], [43, 48, 39], [49, 39], [39, 50, 13]] [.val (.bool b18), .val (.bool (!b18)), .val (.bool false), .val (v0), .val (.int .i64 i13), .val (elp v0 (i13.toNat * 4)), .val (.agg (Loc.cells x19).toArray), .val (v0), .val (.int .i64 i13), .val (elp v0 (i13.toNat * 4)), .val (.agg (Loc.cells x19).toArray), .val (.bool r21), .val (.bool r21), .val (.bool false), .val (.int .i64 i13), .val (.bool (decide (0 < i13))), .val (.bool true), .val (v0), .val (.int .i64 i13), .val (elp v0 (i13.toNat * 4)), .val (.agg (Loc.cells x22).toArray), .val (v0), .val (.int .i64 i13), .val (.int .i64 (wr (i13 - 1))), .val (elp v0 ((wr (i13 - 1)).toNat * 4)), .val (.agg (Loc.cells x24).toArray), .val (.bool r26), .val (v0), .val (.int .i64 i13), .val (.int .i64 (wr (i13 - 1))), .val (elp v0 ((wr (i13 - 1)).toNat * 4)), .val (.agg (Loc.cells x24).toArray), .val (v0), .val (.int .i64 i13), .val (elp v0 (i13.toNat * 4)), .val (.agg (Loc.cells x22).toArray), .val (.bool r27), .val (.bool (r26 == r27)), .val (.bool (r26 == r27)), .val (.bool true), .val (v0), .val (.int .i64 i13), .val (elp v0 (i13.toNat * 4)), .val (.agg (Loc.cells x28).toArray), .val (v0), .val (.int .i64 i13), .val (.int .i64 (wr (i13 - 1))), .val (elp v0 ((wr (i13 - 1)).toNat * 4)), .val (.agg (Loc.cells x30).toArray), .val (.bool r32), .val (.bool (!r32)), .val (.bool (!r32))] Ty.mixed rfl rfl (by kernel_rfl) (by kernel_rfl) rfl
             ·
              refine ⟨?_, ?_, ?_, ?_, ?_, ?_, ?_, ?_, ?_, ?_, ?_, ?_, ?_, ?_, ?_, ?_, ?_, ?_, ?_, ?_, ?_, ?_, ?_, ?_, ?_, ?_, ?_, ?_, ?_, ?_, ?_, ?_, ?_, ?_, ?_, ?_, ?_, ?_, ?_, ?_, ?_, ?_, ?_, ?_, ?_, ?_, ?_, ?_, ?_, ?_, ?_, ?_, trivial⟩
              ·
               intro w158 vq158 hB158 hH158
               have hS158 := hS17.below hB158
               refine W_move rfl rfl ?_
               refine W_nil ?_
               exact N_step rfl rfl (Below.refl _ _)
              ·
               intro w159 vq159 hB159 hH159
               have hS159 := hS17.below hB159
               refine W_not rfl rfl ?_
               refine W_nil ?_
               exact N_step rfl rfl (Below.refl _ _)
              ·
               intro w160 vq160 hB160 hH160
               have hS160 := hS17.below hB160
               refine W_move rfl rfl ?_
               refine W_nil ?_
               exact N_step rfl (congrArg Value.bool hb34) (Below.refl _ _)
              ·
               intro w161 vq161 hB161 hH161
               have hS161 := hS17.below hB161
               refine W_guard_yes rfl ?_
               refine W_move rfl rfl ?_
               refine W_nil ?_
               exact N_step rfl rfl (Below.refl _ _)
              ·
               intro w162 vq162 hB162 hH162
               have hS162 := hS17.below hB162
               refine W_guard_yes rfl ?_
               refine W_move rfl rfl ?_
               refine W_nil ?_
               exact N_step rfl rfl (Below.refl _ _)
              ·
               intro w163 vq163 hB163 hH163
               have hS163 := hS17.below hB163
               refine W_guard_yes rfl ?_
               refine W_ix rfl Go.Proofs.Try.underlying49 Ty.cells37 Ty.info37 rfl rfl (he149.el hS163.agree) hp149 rfl ?_
               refine W_nil ?_
               exact N_step rfl rfl (Below.refl _ _)
              ·
               intro w164 vq164 hB164 hH164
               have hS164 := hS17.below hB164
               refine W_guard_yes rfl ?_
               refine W_ldg 0 ((Loc.cells x19)) rfl Ty.agg37 Ty.size37 rfl (he149.el hS164.agree) (by omega) (fun q u h => sub_at (post := []) rfl h) ?_
               refine W_nil ?_
               exact N_step rfl rfl (Below.refl _ _)
              ·
               intro w165 vq165 hB165 hH165
               have hS165 := hS17.below hB165
               refine W_guard_yes rfl ?_
               refine W_move rfl rfl ?_
               refine W_nil ?_
               exact N_step rfl rfl (Below.refl _ _)
              ·
               intro w166 vq166 hB166 hH166
               have hS166 := hS17.below hB166
               refine W_guard_yes rfl ?_
               refine W_move rfl rfl ?_
               refine W_nil ?_
               exact N_step rfl rfl (Below.refl _ _)
              ·
               intro w167 vq167 hB167 hH167
               have hS167 := hS17.below hB167
               refine W_guard_yes rfl ?_
               refine W_ix rfl Go.Proofs.Try.underlying49 Ty.cells37 Ty.info37 rfl rfl (he149.el hS167.agree) hp149 rfl ?_
               refine W_nil ?_
               exact N_step rfl rfl (Below.refl _ _)
              ·
               intro w168 vq168 hB168 hH168
               have hS168 := hS17.below hB168
               refine W_guard_yes rfl ?_
               refine W_ldg 0 ((Loc.cells x19)) rfl Ty.agg37 Ty.size37 rfl (he149.el hS168.agree) (by omega) (fun q u h => sub_at (post := []) rfl h) ?_
               refine W_nil ?_
               exact N_step rfl rfl (Below.refl _ _)
              ·
               intro w169 vq169 hB169 hH169
               have hS169 := hS17.below hB169
               refine W_guard_yes rfl ?_
               have hy170 := hr21
               rw [only_t (by first | rfl | (rw [hb34]; first | done | rfl) | simp [hb34, hb88, hb146, hb147])] at hy170
               refine W_call rfl Ty.named31 rfl (plan_Ahead_ok hS169.agree hy170) ?_
               rintro v171 w171 ⟨Fr21, rfl, hT171⟩
               have hS171 := hS169.lent hT171
               refine W_nil ?_
               exact N_step rfl rfl hT171.below0
              ·
               intro w172 vq172 hB172 hH172
               have hS172 := hS17.below hB172
               refine W_pick_f rfl rfl rfl ?_
               refine W_nil ?_
               exact N_step rfl rfl (Below.refl _ _)
              ·
               intro w173 vq173 hB173 hH173
               have hS173 := hS17.below hB173
               refine W_move rfl rfl ?_
               refine W_nil ?_
               exact N_step rfl (congrArg Value.bool hb88) (Below.refl _ _)
              ·
               intro w174 vq174 hB174 hH174
               have hS174 := hS17.below hB174
               refine W_guard_yes rfl ?_
               refine W_move rfl rfl ?_
               refine W_nil ?_
               exact N_step rfl rfl (Below.refl _ _)
              ·
               intro w175 vq175 hB175 hH175
               have hS175 := hS17.below hB175
               refine W_guard_yes rfl ?_
               refine W_gtr rfl rfl rfl ?_
               refine W_nil ?_
               exact N_step rfl rfl (Below.refl _ _)
              ·
               intro w176 vq176 hB176 hH176
               have hS176 := hS17.below hB176
               refine W_guard_yes rfl ?_
               refine W_move rfl rfl ?_
               refine W_nil ?_
               exact N_step rfl (congrArg Value.bool hb146) (Below.refl _ _)
              ·
               intro w177 vq177 hB177 hH177
               have hS177 := hS17.below hB177
               refine W_guard_yes rfl ?_
               refine W_move rfl rfl ?_
               refine W_nil ?_
               exact N_step rfl rfl (Below.refl _ _)
              ·
               intro w178 vq178 hB178 hH178
               have hS178 := hS17.below hB178
               refine W_guard_yes rfl ?_
               refine W_move rfl rfl ?_
               refine W_nil ?_
               exact N_step rfl rfl (Below.refl _ _)
              ·
               intro w179 vq179 hB179 hH179
               have hS179 := hS17.below hB179
               refine W_guard_yes rfl ?_
               refine W_ix rfl Go.Proofs.Try.underlying49 Ty.cells37 Ty.info37 rfl rfl (he151.el hS179.agree) hp151 rfl ?_
               refine W_nil ?_
               exact N_step rfl rfl (Below.refl _ _)
              ·
               intro w180 vq180 hB180 hH180
               have hS180 := hS17.below hB180
               refine W_guard_yes rfl ?_
               refine W_ldg 0 ((Loc.cells x22)) rfl Ty.agg37 Ty.size37 rfl (he151.el hS180.agree) (by omega) (fun q u h => sub_at (post := []) rfl h) ?_
               refine W_nil ?_
               exact N_step rfl rfl (Below.refl _ _)
              ·
               intro w181 vq181 hB181 hH181
               have hS181 := hS17.below hB181
               refine W_guard_yes rfl ?_
               refine W_move rfl rfl ?_
               refine W_nil ?_
               exact N_step rfl rfl (Below.refl _ _)
              ·
               intro w182 vq182 hB182 hH182
               have hS182 := hS17.below hB182
               refine W_guard_yes rfl ?_
               refine W_move rfl rfl ?_
               refine W_nil ?_
               exact N_step rfl rfl (Below.refl _ _)
              ·
               intro w183 vq183 hB183 hH183
               have hS183 := hS17.below hB183
               refine W_guard_yes rfl ?_
               refine W_subi rfl rfl rfl rfl ?_
               refine W_nil ?_
               exact N_step rfl rfl (Below.refl _ _)
              ·
               intro w184 vq184 hB184 hH184
               have hS184 := hS17.below hB184
               refine W_guard_yes rfl ?_
               refine W_ix rfl Go.Proofs.Try.underlying49 Ty.cells37 Ty.info37 rfl rfl (he153.el hS184.agree) hp153 rfl ?_
               refine W_nil ?_
               exact N_step rfl rfl (Below.refl _ _)
              ·
               intro w185 vq185 hB185 hH185
               have hS185 := hS17.below hB185
               refine W_guard_yes rfl ?_
               refine W_ldg 0 ((Loc.cells x24)) rfl Ty.agg37 Ty.size37 rfl (he153.el hS185.agree) (by omega) (fun q u h => sub_at (post := []) rfl h) ?_
               refine W_nil ?_
               exact N_step rfl rfl (Below.refl _ _)
              ·
               intro w186 vq186 hB186 hH186
               have hS186 := hS17.below hB186
               refine W_guard_yes rfl ?_
               have hy187 := hr26
               rw [only_t (by first | rfl | (rw [hb146, hb34, hb88]; first | done | rfl) | simp [hb34, hb88, hb146, hb147])] at hy187
               refine W_call rfl Ty.named31 rfl (plan_Ahead_ok hS186.agree hy187) ?_
               rintro v188 w188 ⟨Fr26, rfl, hT188⟩
               have hS188 := hS186.lent hT188
               refine W_nil ?_
               exact N_step rfl rfl hT188.below0
              ·
               intro w189 vq189 hB189 hH189
               have hS189 := hS17.below hB189
               refine W_guard_yes rfl ?_
               refine W_move rfl rfl ?_
               refine W_nil ?_
               exact N_step rfl rfl (Below.refl _ _)
              ·
               intro w190 vq190 hB190 hH190
               have hS190 := hS17.below hB190
               refine W_guard_yes rfl ?_
               refine W_move rfl rfl ?_
               refine W_nil ?_
               exact N_step rfl rfl (Below.refl _ _)
              ·
               intro w191 vq191 hB191 hH191
               have hS191 := hS17.below hB191
               refine W_guard_yes rfl ?_
               refine W_subi rfl rfl rfl rfl ?_
               refine W_nil ?_
               exact N_step rfl rfl (Below.refl _ _)
              ·
               intro w192 vq192 hB192 hH192
               have hS192 := hS17.below hB192
               refine W_guard_yes rfl ?_
               refine W_ix rfl Go.Proofs.Try.underlying49 Ty.cells37 Ty.info37 rfl rfl (he153.el hS192.agree) hp153 rfl ?_
               refine W_nil ?_
               exact N_step rfl rfl (Below.refl _ _)
              ·
               intro w193 vq193 hB193 hH193
               have hS193 := hS17.below hB193
               refine W_guard_yes rfl ?_
               refine W_ldg 0 ((Loc.cells x24)) rfl Ty.agg37 Ty.size37 rfl (he153.el hS193.agree) (by omega) (fun q u h => sub_at (post := []) rfl h) ?_
               refine W_nil ?_
               exact N_step rfl rfl (Below.refl _ _)
              ·
               intro w194 vq194 hB194 hH194
               have hS194 := hS17.below hB194
               refine W_guard_yes rfl ?_
               refine W_move rfl rfl ?_
               refine W_nil ?_
               exact N_step rfl rfl (Below.refl _ _)
              ·
               intro w195 vq195 hB195 hH195
               have hS195 := hS17.below hB195
               refine W_guard_yes rfl ?_
               refine W_move rfl rfl ?_
               refine W_nil ?_
               exact N_step rfl rfl (Below.refl _ _)
              ·
               intro w196 vq196 hB196 hH196
               have hS196 := hS17.below hB196
               refine W_guard_yes rfl ?_
               refine W_ix rfl Go.Proofs.Try.underlying49 Ty.cells37 Ty.info37 rfl rfl (he151.el hS196.agree) hp151 rfl ?_
               refine W_nil ?_
               exact N_step rfl rfl (Below.refl _ _)
              ·
               intro w197 vq197 hB197 hH197
               have hS197 := hS17.below hB197
               refine W_guard_yes rfl ?_
               refine W_ldg 0 ((Loc.cells x22)) rfl Ty.agg37 Ty.size37 rfl (he151.el hS197.agree) (by omega) (fun q u h => sub_at (post := []) rfl h) ?_
               refine W_nil ?_
               exact N_step rfl rfl (Below.refl _ _)
              ·
               intro w198 vq198 hB198 hH198
               have hS198 := hS17.below hB198
               refine W_guard_yes rfl ?_
               have hy199 := hr27
               rw [only_t (by first | rfl | (rw [hb146, hb34, hb88]; first | done | rfl) | simp [hb34, hb88, hb146, hb147])] at hy199
               refine W_call rfl Ty.named31 rfl (plan_Ahead_ok hS198.agree hy199) ?_
               rintro v200 w200 ⟨Fr27, rfl, hT200⟩
               have hS200 := hS198.lent hT200
               refine W_nil ?_
               exact N_step rfl rfl hT200.below0
              ·
               intro w201 vq201 hB201 hH201
               have hS201 := hS17.below hB201
               refine W_guard_yes rfl ?_
               refine W_eqlb rfl Go.Proofs.Try.underlying4 rfl rfl ?_
               refine W_nil ?_
               exact N_step rfl rfl (Below.refl _ _)
              ·
               intro w202 vq202 hB202 hH202
               have hS202 := hS17.below hB202
               refine W_guard_yes rfl ?_
               refine W_pick_t rfl rfl rfl ?_
               refine W_nil ?_
               exact N_step rfl rfl (Below.refl _ _)
              ·
               intro w203 vq203 hB203 hH203
               have hS203 := hS17.below hB203
               refine W_guard_yes rfl ?_
               refine W_move rfl rfl ?_
               refine W_nil ?_
               exact N_step rfl (congrArg Value.bool hb147) (Below.refl _ _)
              ·
               intro w204 vq204 hB204 hH204
               have hS204 := hS17.below hB204
               refine W_guard_yes rfl ?_
               refine W_move rfl rfl ?_
               refine W_nil ?_
               exact N_step rfl rfl (Below.refl _ _)
              ·
               intro w205 vq205 hB205 hH205
               have hS205 := hS17.below hB205
               refine W_guard_yes rfl ?_
               refine W_move rfl rfl ?_
               refine W_nil ?_
               exact N_step rfl rfl (Below.refl _ _)
              ·
               intro w206 vq206 hB206 hH206
               have hS206 := hS17.below hB206
               refine W_guard_yes rfl ?_
               refine W_ix rfl Go.Proofs.Try.underlying49 Ty.cells37 Ty.info37 rfl rfl (he155.el hS206.agree) hp155 rfl ?_
               refine W_nil ?_
               exact N_step rfl rfl (Below.refl _ _)
              ·
               intro w207 vq207 hB207 hH207
               have hS207 := hS17.below hB207
               refine W_guard_yes rfl ?_
               refine W_ldg 0 ((Loc.cells x28)) rfl Ty.agg37 Ty.size37 rfl (he155.el hS207.agree) (by omega) (fun q u h => sub_at (post := []) rfl h) ?_
               refine W_nil ?_
               exact N_step rfl rfl (Below.refl _ _)
              ·
               intro w208 vq208 hB208 hH208
               have hS208 := hS17.below hB208
               refine W_guard_yes rfl ?_
               refine W_move rfl rfl ?_
               refine W_nil ?_
               exact N_step rfl rfl (Below.refl _ _)
              ·
               intro w209 vq209 hB209 hH209
               have hS209 := hS17.below hB209
               refine W_guard_yes rfl ?_
               refine W_move rfl rfl ?_
               refine W_nil ?_
               exact N_step rfl rfl (Below.refl _ _)
              ·
               intro w210 vq210 hB210 hH210
               have hS210 := hS17.below hB210
               refine W_guard_yes rfl ?_
               refine W_subi rfl rfl rfl rfl ?_
               refine W_nil ?_
               exact N_step rfl rfl (Below.refl _ _)
              ·
               intro w211 vq211 hB211 hH211
               have hS211 := hS17.below hB211
               refine W_guard_yes rfl ?_
               refine W_ix rfl Go.Proofs.Try.underlying49 Ty.cells37 Ty.info37 rfl rfl (he157.el hS211.agree) hp157 rfl ?_
               refine W_nil ?_
               exact N_step rfl rfl (Below.refl _ _)
              ·
               intro w212 vq212 hB212 hH212
               have hS212 := hS17.below hB212
               refine W_guard_yes rfl ?_
               refine W_ldg 0 ((Loc.cells x30)) rfl Ty.agg37 Ty.size37 rfl (he157.el hS212.agree) (by omega) (fun q u h => sub_at (post := []) rfl h) ?_
               refine W_nil ?_
               exact N_step rfl rfl (Below.refl _ _)
              ·
               intro w213 vq213 hB213 hH213
               have hS213 := hS17.below hB213
               refine W_guard_yes rfl ?_
               have hy214 := hr32
               rw [only_t (by first | rfl | (rw [hb146, hb147, hb34, hb88]; first | done | rfl) | simp [hb34, hb88, hb146, hb147])] at hy214
               refine W_call rfl Ty.named24 rfl (cellarerkeep_Loc_ok hS213.agree hy214) ?_
               rintro v215 w215 ⟨Fr32, rfl, hT215⟩
               have hS215 := hS213.lent hT215
               refine W_nil ?_
               exact N_step rfl rfl hT215.below0
              ·
               intro w216 vq216 hB216 hH216
               have hS216 := hS17.below hB216
               refine W_guard_yes rfl ?_
               refine W_not rfl rfl ?_
               refine W_nil ?_
               exact N_step rfl rfl (Below.refl _ _)
              ·
               intro w217 vq217 hB217 hH217
               have hS217 := hS17.below hB217
               refine W_guard_yes rfl ?_
               refine W_pick_t rfl rfl rfl ?_
               refine W_nil ?_
               exact N_step rfl rfl (Below.refl _ _)
             intro w218 vq218 hB218 hH218
             have hS218 := hS17.below hB218
             refine W_pick_f rfl rfl rfl ?_
             refine W_nil ?_
             exact N_join _ ⟨rfl, F17, (Frz.le.refl _), hS218⟩ ⟨rfl, rfl, rfl, (look_bool rfl (by first | rfl | (rw [hb146, hb147, hb34, hb88]; first | done | rfl) | simp [hb34, hb88, hb146, hb147])), trivial⟩
            ·
             have hy219 := hx19
             rw [only_t (by first | rfl | (rw [hb34]; first | done | rfl) | simp [hb34, hb88, hb146, hb147])] at hy219
             obtain ⟨hp220, hy220⟩ := ix_some hy219
             obtain ⟨cs220, hr220, he220⟩ := (h0.mono (((ler2.trans le4).trans le12).trans le17)).at_ hy220
             obtain rfl := hr220
             replace he220 : Elf _ _ 4 _ _ := he220
             have hy221 := hx22
             rw [only_t (by first | rfl | (rw [hb146, hb34, hb88]; first | done | rfl) | simp [hb34, hb88, hb146, hb147])] at hy221
             obtain ⟨hp222, hy222⟩ := ix_some hy221
             obtain ⟨cs222, hr222, he222⟩ := (h0.mono (((ler2.trans le4).trans le12).trans le17)).at_ hy222
             obtain rfl := hr222
             replace he222 : Elf _ _ 4 _ _ := he222
             have hy223 := hx24
             rw [only_t (by first | rfl | (rw [hb146, hb34, hb88]; first | done | rfl) | simp [hb34, hb88, hb146, hb147])] at hy223
             obtain ⟨hp224, hy224⟩ := ix_some hy223
             obtain ⟨cs224, hr224, he224⟩ := (h0.mono (((ler2.trans le4).trans le12).trans le17)).at_ hy224
             obtain rfl := hr224
             replace he224 : Elf _ _ 4 _ _ := he224
             apply C_draw 52 [[], [0], [1], [2], [2], [3, 4, 2], [5, 2], [2], [2], [7, 8, 2], [9, 2], [6, 10, 2], [2, 11], [12], [13], [14, 13], [15, 13], [16], [16], [17, 18, 16], [19, 16], [16], [16], [22, 16], [21, 23, 16], [24, 16], [20, 25, 16], [16], [16], [28, 16], [27, 29, 16], [30, 16], [16], [16], [32, 33, 16], [34, 16], [31, 35, 16], [26, 36, 16], [16, 37, 13], [38, 13], [39], [39], [40, 41, 39], [42, 39], [39], [39], [45, 39], [44, 46, 39], [47, 39], [43, 48, 39], [49, 39], [39, 50, 13]] [.val (.bool b18), .val (.bool (!b18)), .val (.bool false), .val (v0), .val (.int .i64 i13), .val (elp v0 (i13.toNat * 4)), .val (.agg (Loc.cells x19).toArray), .val (v0), .val (.int .i64 i13), .val (elp v0 (i13.toNat * 4)), .val (.agg (Loc.cells x19).toArray), .val (.bool r21), .val (.bool r21), .val (.bool false), .val (.int .i64 i13), .val (.bool (decide (0 < i13))), .val (.bool true), .val (v0), .val (.int .i64 i13), .val (elp v0 (i13.toNat * 4)), .val (.agg (Loc.cells x22).toArray), .val (v0), .val (.int .i64 i13), .val (.int .i64 (wr (i13 - 1))), .val (elp v0 ((wr (i13 - 1)).toNat * 4)), .val (.agg (Loc.cells x24).toArray), .val (.bool r26), .val (v0), .val (.int .i64 i13), .val (.int .i64 (wr (i13 - 1))), .val (elp v0 ((wr (i13 - 1)).toNat * 4)), .val (.agg (Loc.cells x24).toArray), .val (v0), .val (.int .i64 i13), .val (elp v0 (i13.toNat * 4)), .val (.agg (Loc.cells x22).toArray), .val (.bool r27), .val (.bool (r26 == r27)), .val (.bool (r26 == r27)), .val (.bool false), .val undef, .val undef, .val undef, .val undef, .val undef, .val undef, .val undef, .val undef, .val undef, .val undef, .val undef, .val (.bool false)] Ty.mixed rfl rfl (by kernel_rfl) (by kernel_rfl) rfl
             ·
              refine ⟨?_, ?_, ?_, ?_, ?_, ?_, ?_, ?_, ?_, ?_, ?_, ?_, ?_, ?_, ?_, ?_, ?_, ?_, ?_, ?_, ?_, ?_, ?_, ?_, ?_, ?_, ?_, ?_, ?_, ?_, ?_, ?_, ?_, ?_, ?_, ?_, ?_, ?_, ?_, ?_, ?_, ?_, ?_, ?_, ?_, ?_, ?_, ?_, ?_, ?_, ?_, ?_, trivial⟩
              ·
               intro w225 vq225 hB225 hH225
               have hS225 := hS17.below hB225
               refine W_move rfl rfl ?_
               refine W_nil ?_
               exact N_step rfl rfl (Below.refl _ _)
              ·
               intro w226 vq226 hB226 hH226
               have hS226 := hS17.below hB226
               refine W_not rfl rfl ?_
               refine W_nil ?_
               exact N_step rfl rfl (Below.refl _ _)
              ·
               intro w227 vq227 hB227 hH227
               have hS227 := hS17.below hB227
               refine W_move rfl rfl ?_
               refine W_nil ?_
               exact N_step rfl (congrArg Value.bool hb34) (Below.refl _ _)
              ·
               intro w228 vq228 hB228 hH228
               have hS228 := hS17.below hB228
               refine W_guard_yes rfl ?_
               refine W_move rfl rfl ?_
               refine W_nil ?_
               exact N_step rfl rfl (Below.refl _ _)
              ·
               intro w229 vq229 hB229 hH229
               have hS229 := hS17.below hB229
               refine W_guard_yes rfl ?_
               refine W_move rfl rfl ?_
               refine W_nil ?_
               exact N_step rfl rfl (Below.refl _ _)
              ·
               intro w230 vq230 hB230 hH230
               have hS230 := hS17.below hB230
               refine W_guard_yes rfl ?_
               refine W_ix rfl Go.Proofs.Try.underlying49 Ty.cells37 Ty.info37 rfl rfl (he220.el hS230.agree) hp220 rfl ?_
               refine W_nil ?_
               exact N_step rfl rfl (Below.refl _ _)
              ·
               intro w231 vq231 hB231 hH231
               have hS231 := hS17.below hB231
               refine W_guard_yes rfl ?_
               refine W_ldg 0 ((Loc.cells x19)) rfl Ty.agg37 Ty.size37 rfl (he220.el hS231.agree) (by omega) (fun q u h => sub_at (post := []) rfl h) ?_
               refine W_nil ?_
               exact N_step rfl rfl (Below.refl _ _)
              ·
               intro w232 vq232 hB232 hH232
               have hS232 := hS17.below hB232
               refine W_guard_yes rfl ?_
               refine W_move rfl rfl ?_
               refine W_nil ?_
               exact N_step rfl rfl (Below.refl _ _)
              ·
               intro w233 vq233 hB233 hH233
               have hS233 := hS17.below hB233
               refine W_guard_yes rfl ?_
               refine W_move rfl rfl ?_
               refine W_nil ?_
               exact N_step rfl rfl (Below.refl _ _)
              ·
               intro w234 vq234 hB234 hH234
               have hS234 := hS17.below hB234
               refine W_guard_yes rfl ?_
               refine W_ix rfl Go.Proofs.Try.underlying49 Ty.cells37 Ty.info37 rfl rfl (he220.el hS234.agree) hp220 rfl ?_
               refine W_nil ?_
               exact N_step rfl rfl (Below.refl _ _)
              ·
               intro w235 vq235 hB235 hH235
               have hS235 := hS17.below hB235
               refine W_guard_yes rfl ?_
               refine W_ldg 0 ((Loc.cells x19)) rfl Ty.agg37 Ty.size37 rfl (he220.el hS235.agree) (by omega) (fun q u h => sub_at (post := []) rfl h) ?_
               refine W_nil ?_
               exact N_step rfl rfl (Below.refl _ _)
              ·
               intro w236 vq236 hB236 hH236
               have hS236 := hS17.below hB236
               refine W_guard_yes rfl ?_
               have hy237 := hr21
               rw [only_t (by first | rfl | (rw [hb34]; first | done | rfl) | simp [hb34, hb88, hb146, hb147])] at hy237
               refine W_call rfl Ty.named31 rfl (plan_Ahead_ok hS236.agree hy237) ?_
               rintro v238 w238 ⟨Fr21, rfl, hT238⟩
               have hS238 := hS236.lent hT238
               refine W_nil ?_
               exact N_step rfl rfl hT238.below0
              ·
               intro w239 vq239 hB239 hH239
               have hS239 := hS17.below hB239
               refine W_pick_f rfl rfl rfl ?_
               refine W_nil ?_
               exact N_step rfl rfl (Below.refl _ _)
              ·
               intro w240 vq240 hB240 hH240
               have hS240 := hS17.below hB240
               refine W_move rfl rfl ?_
               refine W_nil ?_
               exact N_step rfl (congrArg Value.bool hb88) (Below.refl _ _)
              ·
               intro w241 vq241 hB241 hH241
               have hS241 := hS17.below hB241
               refine W_guard_yes rfl ?_
               refine W_move rfl rfl ?_
               refine W_nil ?_
               exact N_step rfl rfl (Below.refl _ _)
              ·
               intro w242 vq242 hB242 hH242
               have hS242 := hS17.below hB242
               refine W_guard_yes rfl ?_
               refine W_gtr rfl rfl rfl ?_
               refine W_nil ?_
               exact N_step rfl rfl (Below.refl _ _)
              ·
               intro w243 vq243 hB243 hH243
               have hS243 := hS17.below hB243
               refine W_guard_yes rfl ?_
               refine W_move rfl rfl ?_
               refine W_nil ?_
               exact N_step rfl (congrArg Value.bool hb146) (Below.refl _ _)
              ·
               intro w244 vq244 hB244 hH244
               have hS244 := hS17.below hB244
               refine W_guard_yes rfl ?_
               refine W_move rfl rfl ?_
               refine W_nil ?_
               exact N_step rfl rfl (Below.refl _ _)
              ·
               intro w245 vq245 hB245 hH245
               have hS245 := hS17.below hB245
               refine W_guard_yes rfl ?_
               refine W_move rfl rfl ?_
               refine W_nil ?_
               exact N_step rfl rfl (Below.refl _ _)
              ·
               intro w246 vq246 hB246 hH246
               have hS246 := hS17.below hB246
               refine W_guard_yes rfl ?_
               refine W_ix rfl Go.Proofs.Try.underlying49 Ty.cells37 Ty.info37 rfl rfl (he222.el hS246.agree) hp222 rfl ?_
               refine W_nil ?_
               exact N_step rfl rfl (Below.refl _ _)
              ·
               intro w247 vq247 hB247 hH247
               have hS247 := hS17.below hB247
               refine W_guard_yes rfl ?_
               refine W_ldg 0 ((Loc.cells x22)) rfl Ty.agg37 Ty.size37 rfl (he222.el hS247.agree) (by omega) (fun q u h => sub_at (post := []) rfl h) ?_
               refine W_nil ?_
               exact N_step rfl rfl (Below.refl _ _)
              ·
               intro w248 vq248 hB248 hH248
               have hS248 := hS17.below hB248
               refine W_guard_yes rfl ?_
               refine W_move rfl rfl ?_
               refine W_nil ?_
               exact N_step rfl rfl (Below.refl _ _)
              ·
               intro w249 vq249 hB249 hH249
               have hS249 := hS17.below hB249
               refine W_guard_yes rfl ?_
               refine W_move rfl rfl ?_
               refine W_nil ?_
               exact N_step rfl rfl (Below.refl _ _)
              ·
               intro w250 vq250 hB250 hH250
               have hS250 := hS17.below hB250
               refine W_guard_yes rfl ?_
               refine W_subi rfl rfl rfl rfl ?_
               refine W_nil ?_
               exact N_step rfl rfl (Below.refl _ _)
              ·
               intro w251 vq251 hB251 hH251
               have hS251 := hS17.below hB251
               refine W_guard_yes rfl ?_
               refine W_ix rfl Go.Proofs.Try.underlying49 Ty.cells37 Ty.info37 rfl rfl (he224.el hS251.agree) hp224 rfl ?_
               refine W_nil ?_
               exact N_step rfl rfl (Below.refl _ _)
              ·
               intro w252 vq252 hB252 hH252
               have hS252 := hS17.below hB252
               refine W_guard_yes rfl ?_
               refine W_ldg 0 ((Loc.cells x24)) rfl Ty.agg37 Ty.size37 rfl (he224.el hS252.agree) (by omega) (fun q u h => sub_at (post := []) rfl h) ?_
               refine W_nil ?_
               exact N_step rfl rfl (Below.refl _ _)
              ·
               intro w253 vq253 hB253 hH253
               have hS253 := hS17.below hB253
               refine W_guard_yes rfl ?_
               have hy254 := hr26
               rw [only_t (by first | rfl | (rw [hb146, hb34, hb88]; first | done | rfl) | simp [hb34, hb88, hb146, hb147])] at hy254
               refine W_call rfl Ty.named31 rfl (plan_Ahead_ok hS253.agree hy254) ?_
               rintro v255 w255 ⟨Fr26, rfl, hT255⟩
               have hS255 := hS253.lent hT255
               refine W_nil ?_
               exact N_step rfl rfl hT255.below0
              ·
               intro w256 vq256 hB256 hH256
               have hS256 := hS17.below hB256
               refine W_guard_yes rfl ?_
               refine W_move rfl rfl ?_
               refine W_nil ?_
               exact N_step rfl rfl (Below.refl _ _)
              ·
               intro w257 vq257 hB257 hH257
               have hS257 := hS17.below hB257
               refine W_guard_yes rfl ?_
               refine W_move rfl rfl ?_
               refine W_nil ?_
               exact N_step rfl rfl (Below.refl _ _)
              ·
               intro w258 vq258 hB258 hH258
               have hS258 := hS17.below hB258
               refine W_guard_yes rfl ?_
               refine W_subi rfl rfl rfl rfl ?_
               refine W_nil ?_
               exact N_step rfl rfl (Below.refl _ _)
              ·
               intro w259 vq259 hB259 hH259
               have hS259 := hS17.below hB259
               refine W_guard_yes rfl ?_
               refine W_ix rfl Go.Proofs.Try.underlying49 Ty.cells37 Ty.info37 rfl rfl (he224.el hS259.agree) hp224 rfl ?_
               refine W_nil ?_
               exact N_step rfl rfl (Below.refl _ _)
              ·
               intro w260 vq260 hB260 hH260
               have hS260 := hS17.below hB260
               refine W_guard_yes rfl ?_
               refine W_ldg 0 ((Loc.cells x24)) rfl Ty.agg37 Ty.size37 rfl (he224.el hS260.agree) (by omega) (fun q u h => sub_at (post := []) rfl h) ?_
               refine W_nil ?_
               exact N_step rfl rfl (Below.refl _ _)
              ·
               intro w261 vq261 hB261 hH261
               have hS261 := hS17.below hB261
               refine W_guard_yes rfl ?_
               refine W_move rfl rfl ?_
               refine W_nil ?_
               exact N_step rfl rfl (Below.refl _ _)
              ·
               intro w262 vq262 hB262 hH262
               have hS262 := hS17.below hB262
               refine W_guard_yes rfl ?_
               refine W_move rfl rfl ?_
               refine W_nil ?_
               exact N_step rfl rfl (Below.refl _ _)
              ·
               intro w263 vq263 hB263 hH263
               have hS263 := hS17.below hB263
               refine W_guard_yes rfl ?_
               refine W_ix rfl Go.Proofs.Try.underlying49 Ty.cells37 Ty.info37 rfl rfl (he222.el hS263.agree) hp222 rfl ?_
               refine W_nil ?_
               exact N_step rfl rfl (Below.refl _ _)
              ·
               intro w264 vq264 hB264 hH264
               have hS264 := hS17.below hB264
               refine W_guard_yes rfl ?_
               refine W_ldg 0 ((Loc.cells x22)) rfl Ty.agg37 Ty.size37 rfl (he222.el hS264.agree) (by omega) (fun q u h => sub_at (post := []) rfl h) ?_
               refine W_nil ?_
               exact N_step rfl rfl (Below.refl _ _)
              ·
               intro w265 vq265 hB265 hH265
               have hS265 := hS17.below hB265
               refine W_guard_yes rfl ?_
               have hy266 := hr27
               rw [only_t (by first | rfl | (rw [hb146, hb34, hb88]; first | done | rfl) | simp [hb34, hb88, hb146, hb147])] at hy266
               refine W_call rfl Ty.named31 rfl (plan_Ahead_ok hS265.agree hy266) ?_
               rintro v267 w267 ⟨Fr27, rfl, hT267⟩
               have hS267 := hS265.lent hT267
               refine W_nil ?_
               exact N_step rfl rfl hT267.below0
              ·
               intro w268 vq268 hB268 hH268
               have hS268 := hS17.below hB268
               refine W_guard_yes rfl ?_
               refine W_eqlb rfl Go.Proofs.Try.underlying4 rfl rfl ?_
               refine W_nil ?_
               exact N_step rfl rfl (Below.refl _ _)
              ·
               intro w269 vq269 hB269 hH269
               have hS269 := hS17.below hB269
               refine W_guard_yes rfl ?_
               refine W_pick_t rfl rfl rfl ?_
               refine W_nil ?_
               exact N_step rfl rfl (Below.refl _ _)
              ·
               intro w270 vq270 hB270 hH270
               have hS270 := hS17.below hB270
               refine W_guard_yes rfl ?_
               refine W_move rfl rfl ?_
               refine W_nil ?_
               exact N_step rfl (congrArg Value.bool hb147) (Below.refl _ _)
              ·
               intro w271 vq271 hB271 hH271
               have hS271 := hS17.below hB271
               refine W_guard_no rfl rfl rfl rfl rfl ?_
               refine W_nil ?_
               exact N_step rfl rfl (Below.refl _ _)
              ·
               intro w272 vq272 hB272 hH272
               have hS272 := hS17.below hB272
               refine W_guard_no rfl rfl rfl rfl rfl ?_
               refine W_nil ?_
               exact N_step rfl rfl (Below.refl _ _)
              ·
               intro w273 vq273 hB273 hH273
               have hS273 := hS17.below hB273
               refine W_guard_no rfl rfl rfl rfl rfl ?_
               refine W_nil ?_
               exact N_step rfl rfl (Below.refl _ _)
              ·
               intro w274 vq274 hB274 hH274
               have hS274 := hS17.below hB274
               refine W_guard_no rfl rfl rfl rfl rfl ?_
               refine W_nil ?_
               exact N_step rfl rfl (Below.refl _ _)
              ·
               intro w275 vq275 hB275 hH275
               have hS275 := hS17.below hB275
               refine W_guard_no rfl rfl rfl rfl rfl ?_
               refine W_nil ?_
               exact N_step rfl rfl (Below.refl _ _)
              ·
               intro w276 vq276 hB276 hH276
               have hS276 := hS17.below hB276
               refine W_guard_no rfl rfl rfl rfl rfl ?_
               refine W_nil ?_
               exact N_step rfl rfl (Below.refl _ _)
              ·
               intro w277 vq277 hB277 hH277
               have hS277 := hS17.below hB277
               refine W_guard_no rfl rfl rfl rfl rfl ?_
               refine W_nil ?_
               exact N_step rfl rfl (Below.refl _ _)
              ·
               intro w278 vq278 hB278 hH278
               have hS278 := hS17.below hB278
               refine W_guard_no rfl rfl rfl rfl rfl ?_
               refine W_nil ?_
               exact N_step rfl rfl (Below.refl _ _)
              ·
               intro w279 vq279 hB279 hH279
               have hS279 := hS17.below hB279
               refine W_guard_no rfl rfl rfl rfl rfl ?_
               refine W_nil ?_
               exact N_step rfl rfl (Below.refl _ _)
              ·
               intro w280 vq280 hB280 hH280
               have hS280 := hS17.below hB280
               refine W_guard_no rfl rfl rfl rfl rfl ?_
               refine W_nil ?_
               exact N_step rfl rfl (Below.refl _ _)
              ·
               intro w281 vq281 hB281 hH281
               have hS281 := hS17.below hB281
               refine W_guard_no rfl rfl rfl rfl rfl ?_
               refine W_nil ?_
               exact N_step rfl rfl (Below.refl _ _)
              ·
               intro w282 vq282 hB282 hH282
               have hS282 := hS17.below hB282
               refine W_guard_yes rfl ?_
               refine W_pick_f rfl rfl rfl ?_
               refine W_nil ?_
               exact N_step rfl rfl (Below.refl _ _)
             intro w283 vq283 hB283 hH283
             have hS283 := hS17.below hB283
             refine W_pick_f rfl rfl rfl ?_
             refine W_nil ?_
             exact N_join _ ⟨rfl, F17, (Frz.le.refl _), hS283⟩ ⟨rfl, rfl, rfl, (look_bool rfl (by first | rfl | (rw [hb146, hb147, hb34, hb88]; first | done | rfl) | simp [hb34, hb88, hb146, hb147])), trivial⟩
           ·
            have hy284 := hx19
            rw [only_t (by first | rfl | (rw [hb34]; first | done | rfl) | simp [hb34, hb88, hb146])] at hy284
            obtain ⟨hp285, hy285⟩ := ix_some hy284
            obtain ⟨cs285, hr285, he285⟩ := (h0.mono (((ler2.trans le4).trans le12).trans le17)).at_ hy285
            obtain rfl := hr285
            replace he285 : Elf _ _ 4 _ _ := he285
            apply C_draw 52 [[], [0], [1], [2], [2], [3, 4, 2], [5, 2], [2], [2], [7, 8, 2], [9, 2], [6, 10, 2], [2, 11], [12], [13], [14, 13], [15, 13], [16], [16], [17, 18, 16], [19, 16], [16], [16], [22, 16], [21, 23, 16], [24, 16], [20, 25, 16], [16], [16], [28, 16], [27, 29, 16], [30, 16], [16], [16], [32, 33, 16], [34, 16], [31, 35, 16], [26, 36, 16], [16, 37, 13], [38, 13], [39], [39], [40, 41, 39], [42, 39], [39], [39], [45, 39], [44, 46, 39], [47, 39], [43, 48, 39], [49, 39], [39, 50, 13]] [.val (.bool b18), .val (.bool (!b18)), .val (.bool false), .val (v0), .val (.int .i64 i13), .val (elp v0 (i13.toNat * 4)), .val (.agg (Loc.cells x19).toArray), .val (v0), .val (.int .i64 i13), .val (elp v0 (i13.toNat * 4)), .val (.agg (Loc.cells x19).toArray), .val (.bool r21), .val (.bool r21), .val (.bool false), .val (.int .i64 i13), .val (.bool (decide (0 < i13))), .val (.bool false), .val undef, .val undef, .val undef, .val undef, .val undef, .val undef, .val undef, .val undef, .val undef, .val undef, .val undef, .val undef, .val undef, .val undef, .val undef, .val undef, .val undef, .val undef, .val undef, .val undef, .val undef, .val (.bool false), .val (.bool false), .val undef, .val undef, .val undef, .val undef, .val undef, .val undef, .val undef, .val undef, .val undef, .val undef, .val undef, .val (.bool false)] Ty.mixed rfl rfl (by kernel_rfl) (by kernel_rfl) rfl
            ·
             refine ⟨?_, ?_, ?_, ?_, ?_, ?_, ?_, ?_, ?_, ?_, ?_, ?_, ?_, ?_, ?_, ?_, ?_, ?_, ?_, ?_, ?_, ?_, ?_, ?_, ?_, ?_, ?_, ?_, ?_, ?_, ?_, ?_, ?_, ?_, ?_, ?_, ?_, ?_, ?_, ?_, ?_, ?_, ?_, ?_, ?_, ?_, ?_, ?_, ?_, ?_, ?_, ?_, trivial⟩
             ·
              intro w286 vq286 hB286 hH286
              have hS286 := hS17.below hB286
              refine W_move rfl rfl ?_
              refine W_nil ?_
              exact N_step rfl rfl (Below.refl _ _)
             ·
              intro w287 vq287 hB287 hH287
              have hS287 := hS17.below hB287
              refine W_not rfl rfl ?_
              refine W_nil ?_
              exact N_step rfl rfl (Below.refl _ _)
             ·
              intro w288 vq288 hB288 hH288
              have hS288 := hS17.below hB288
              refine W_move rfl rfl ?_
              refine W_nil ?_
              exact N_step rfl (congrArg Value.bool hb34) (Below.refl _ _)
             ·
              intro w289 vq289 hB289 hH289
              have hS289 := hS17.below hB289
              refine W_guard_yes rfl ?_
              refine W_move rfl rfl ?_
              refine W_nil ?_
              exact N_step rfl rfl (Below.refl _ _)
             ·
              intro w290 vq290 hB290 hH290
              have hS290 := hS17.below hB290
              refine W_guard_yes rfl ?_
              refine W_move rfl rfl ?_
              refine W_nil ?_
              exact N_step rfl rfl (Below.refl _ _)
             ·
              intro w291 vq291 hB291 hH291
              have hS291 := hS17.below hB291
              refine W_guard_yes rfl ?_
              refine W_ix rfl Go.Proofs.Try.underlying49 Ty.cells37 Ty.info37 rfl rfl (he285.el hS291.agree) hp285 rfl ?_
              refine W_nil ?_
              exact N_step rfl rfl (Below.refl _ _)
             ·
              intro w292 vq292 hB292 hH292
              have hS292 := hS17.below hB292
              refine W_guard_yes rfl ?_
              refine W_ldg 0 ((Loc.cells x19)) rfl Ty.agg37 Ty.size37 rfl (he285.el hS292.agree) (by omega) (fun q u h => sub_at (post := []) rfl h) ?_
              refine W_nil ?_
              exact N_step rfl rfl (Below.refl _ _)
             ·
              intro w293 vq293 hB293 hH293
              have hS293 := hS17.below hB293
              refine W_guard_yes rfl ?_
              refine W_move rfl rfl ?_
              refine W_nil ?_
              exact N_step rfl rfl (Below.refl _ _)
             ·
              intro w294 vq294 hB294 hH294
              have hS294 := hS17.below hB294
              refine W_guard_yes rfl ?_
              refine W_move rfl rfl ?_
              refine W_nil ?_
              exact N_step rfl rfl (Below.refl _ _)
             ·
              intro w295 vq295 hB295 hH295
              have hS295 := hS17.below hB295
              refine W_guard_yes rfl ?_
              refine W_ix rfl Go.Proofs.Try.underlying49 Ty.cells37 Ty.info37 rfl rfl (he285.el hS295.agree) hp285 rfl ?_
              refine W_nil ?_
              exact N_step rfl rfl (Below.refl _ _)
             ·
              intro w296 vq296 hB296 hH296
              have hS296 := hS17.below hB296
              refine W_guard_yes rfl ?_
              refine W_ldg 0 ((Loc.cells x19)) rfl Ty.agg37 Ty.size37 rfl (he285.el hS296.agree) (by omega) (fun q u h => sub_at (post := []) rfl h) ?_
              refine W_nil ?_
              exact N_step rfl rfl (Below.refl _ _)
             ·
              intro w297 vq297 hB297 hH297
              have hS297 := hS17.below hB297
              refine W_guard_yes rfl ?_
              have hy298 := hr21
              rw [only_t (by first | rfl | (rw [hb34]; first | done | rfl) | simp [hb34, hb88, hb146])] at hy298
              refine W_call rfl Ty.named31 rfl (plan_Ahead_ok hS297.agree hy298) ?_
              rintro v299 w299 ⟨Fr21, rfl, hT299⟩
              have hS299 := hS297.lent hT299
              refine W_nil ?_
              exact N_step rfl rfl hT299.below0
             ·
              intro w300 vq300 hB300 hH300
              have hS300 := hS17.below hB300
              refine W_pick_f rfl rfl rfl ?_
              refine W_nil ?_
              exact N_step rfl rfl (Below.refl _ _)
             ·
              intro w301 vq301 hB301 hH301
              have hS301 := hS17.below hB301
              refine W_move rfl rfl ?_
              refine W_nil ?_
              exact N_step rfl (congrArg Value.bool hb88) (Below.refl _ _)
             ·
              intro w302 vq302 hB302 hH302
              have hS302 := hS17.below hB302
              refine W_guard_yes rfl ?_
              refine W_move rfl rfl ?_
              refine W_nil ?_
              exact N_step rfl rfl (Below.refl _ _)
             ·
              intro w303 vq303 hB303 hH303
              have hS303 := hS17.below hB303
              refine W_guard_yes rfl ?_
              refine W_gtr rfl rfl rfl ?_
              refine W_nil ?_
              exact N_step rfl rfl (Below.refl _ _)
             ·
              intro w304 vq304 hB304 hH304
              have hS304 := hS17.below hB304
              refine W_guard_yes rfl ?_
              refine W_move rfl rfl ?_
              refine W_nil ?_
              exact N_step rfl (congrArg Value.bool hb146) (Below.refl _ _)
             ·
              intro w305 vq305 hB305 hH305
              have hS305 := hS17.below hB305
              refine W_guard_no rfl rfl rfl rfl rfl ?_
              refine W_nil ?_
              exact N_step rfl rfl (Below.refl _ _)
             ·
              intro w306 vq306 hB306 hH306
              have hS306 := hS17.below hB306
              refine W_guard_no rfl rfl rfl rfl rfl ?_
              refine W_nil ?_
              exact N_step rfl rfl (Below.refl _ _)
             ·
              intro w307 vq307 hB307 hH307
              have hS307 := hS17.below hB307
              refine W_guard_no rfl rfl rfl rfl rfl ?_
              refine W_nil ?_
              exact N_step rfl rfl (Below.refl _ _)
             ·
              intro w308 vq308 hB308 hH308
              have hS308 := hS17.below hB308
              refine W_guard_no rfl rfl rfl rfl rfl ?_
              refine W_nil ?_
              exact N_step rfl rfl (Below.refl _ _)
             ·
              intro w309 vq309 hB309 hH309
              have hS309 := hS17.below hB309
              refine W_guard_no rfl rfl rfl rfl rfl ?_
              refine W_nil ?_
              exact N_step rfl rfl (Below.refl _ _)
             ·
              intro w310 vq310 hB310 hH310
              have hS310 := hS17.below hB310
              refine W_guard_no rfl rfl rfl rfl rfl ?_
              refine W_nil ?_
              exact N_step rfl rfl (Below.refl _ _)
             ·
              intro w311 vq311 hB311 hH311
              have hS311 := hS17.below hB311
              refine W_guard_no rfl rfl rfl rfl rfl ?_
              refine W_nil ?_
              exact N_step rfl rfl (Below.refl _ _)
             ·
              intro w312 vq312 hB312 hH312
              have hS312 := hS17.below hB312
              refine W_guard_no rfl rfl rfl rfl rfl ?_
              refine W_nil ?_
              exact N_step rfl rfl (Below.refl _ _)
             ·
              intro w313 vq313 hB313 hH313
              have hS313 := hS17.below hB313
              refine W_guard_no rfl rfl rfl rfl rfl ?_
              refine W_nil ?_
              exact N_step rfl rfl (Below.refl _ _)
             ·
              intro w314 vq314 hB314 hH314
              have hS314 := hS17.below hB314
              refine W_guard_no rfl rfl rfl rfl rfl ?_
              refine W_nil ?_
              exact N_step rfl rfl (Below.refl _ _)
             ·
              intro w315 vq315 hB315 hH315
              have hS315 := hS17.below hB315
              refine W_guard_no rfl rfl rfl rfl rfl ?_
              refine W_nil ?_
              exact N_step rfl rfl (Below.refl _ _)
             ·
              intro w316 vq316 hB316 hH316
              have hS316 := hS17.below hB316
              refine W_guard_no rfl rfl rfl rfl rfl ?_
              refine W_nil ?_
              exact N_step rfl rfl (Below.refl _ _)
             ·
              intro w317 vq317 hB317 hH317
              have hS317 := hS17.below hB317
              refine W_guard_no rfl rfl rfl rfl rfl ?_
              refine W_nil ?_
              exact N_step rfl rfl (Below.refl _ _)
             ·
              intro w318 vq318 hB318 hH318
              have hS318 := hS17.below hB318
              refine W_guard_no rfl rfl rfl rfl rfl ?_
              refine W_nil ?_
              exact N_step rfl rfl (Below.refl _ _)
             ·
              intro w319 vq319 hB319 hH319
              have hS319 := hS17.below hB319
              refine W_guard_no rfl rfl rfl rfl rfl ?_
              refine W_nil ?_
              exact N_step rfl rfl (Below.refl _ _)
             ·
              intro w320 vq320 hB320 hH320
              have hS320 := hS17.below hB320
              refine W_guard_no rfl rfl rfl rfl rfl ?_
              refine W_nil ?_
              exact N_step rfl rfl (Below.refl _ _)
             ·
              intro w321 vq321 hB321 hH321
              have hS321 := hS17.below hB321
              refine W_guard_no rfl rfl rfl rfl rfl ?_
              refine W_nil ?_
              exact N_step rfl rfl (Below.refl _ _)
             ·
              intro w322 vq322 hB322 hH322
              have hS322 := hS17.below hB322
              refine W_guard_no rfl rfl rfl rfl rfl ?_
              refine W_nil ?_
              exact N_step rfl rfl (Below.refl _ _)
             ·
              intro w323 vq323 hB323 hH323
              have hS323 := hS17.below hB323
              refine W_guard_no rfl rfl rfl rfl rfl ?_
              refine W_nil ?_
              exact N_step rfl rfl (Below.refl _ _)
             ·
              intro w324 vq324 hB324 hH324
              have hS324 := hS17.below hB324
              refine W_guard_no rfl rfl rfl rfl rfl ?_
              refine W_nil ?_
              exact N_step rfl rfl (Below.refl _ _)
             ·
              intro w325 vq325 hB325 hH325
              have hS325 := hS17.below hB325
              refine W_guard_no rfl rfl rfl rfl rfl ?_
              refine W_nil ?_
              exact N_step rfl rfl (Below.refl _ _)
             ·
              intro w326 vq326 hB326 hH326
              have hS326 := hS17.below hB326
              refine W_guard_yes rfl ?_
              refine W_pick_f rfl rfl rfl ?_
              refine W_nil ?_
              exact N_step rfl rfl (Below.refl _ _)
             ·
              intro w327 vq327 hB327 hH327
              have hS327 := hS17.below hB327
              refine W_guard_yes rfl ?_
              refine W_move rfl rfl ?_
              refine W_nil ?_
              exact N_step rfl rfl (Below.refl _ _)
             ·
              intro w328 vq328 hB328 hH328
              have hS328 := hS17.below hB328
              refine W_guard_no rfl rfl rfl rfl rfl ?_
              refine W_nil ?_
              exact N_step rfl rfl (Below.refl _ _)
             ·
              intro w329 vq329 hB329 hH329
              have hS329 := hS17.below hB329
              refine W_guard_no rfl rfl rfl rfl rfl ?_
              refine W_nil ?_
              exact N_step rfl rfl (Below.refl _ _)
             ·
              intro w330 vq330 hB330 hH330
              have hS330 := hS17.below hB330
              refine W_guard_no rfl rfl rfl rfl rfl ?_
              refine W_nil ?_
              exact N_step rfl rfl (Below.refl _ _)
             ·
              intro w331 vq331 hB331 hH331
              have hS331 := hS17.below hB331
              refine W_guard_no rfl rfl rfl rfl rfl ?_
              refine W_nil ?_
              exact N_step rfl rfl (Below.refl _ _)
             ·
              intro w332 vq332 hB332 hH332
              have hS332 := hS17.below hB332
              refine W_guard_no rfl rfl rfl rfl rfl ?_
              refine W_nil ?_
              exact N_step rfl rfl (Below.refl _ _)
             ·
              intro w333 vq333 hB333 hH333
              have hS333 := hS17.below hB333
              refine W_guard_no rfl rfl rfl rfl rfl ?_
              refine W_nil ?_
              exact N_step rfl rfl (Below.refl _ _)
             ·
              intro w334 vq334 hB334 hH334
              have hS334 := hS17.below hB334
              refine W_guard_no rfl rfl rfl rfl rfl ?_
              refine W_nil ?_
              exact N_step rfl rfl (Below.refl _ _)
             ·
              intro w335 vq335 hB335 hH335
              have hS335 := hS17.below hB335
              refine W_guard_no rfl rfl rfl rfl rfl ?_
              refine W_nil ?_
              exact N_step rfl rfl (Below.refl _ _)
             ·
              intro w336 vq336 hB336 hH336
              have hS336 := hS17.below hB336
              refine W_guard_no rfl rfl rfl rfl rfl ?_
              refine W_nil ?_
              exact N_step rfl rfl (Below.refl _ _)
             ·
              intro w337 vq337 hB337 hH337
              have hS337 := hS17.below hB337
              refine W_guard_no rfl rfl rfl rfl rfl ?_
              refine W_nil ?_
              exact N_step rfl rfl (Below.refl _ _)
             ·
              intro w338 vq338 hB338 hH338
              have hS338 := hS17.below hB338
              refine W_guard_no rfl rfl rfl rfl rfl ?_
              refine W_nil ?_
              exact N_step rfl rfl (Below.refl _ _)
             ·
              intro w339 vq339 hB339 hH339
              have hS339 := hS17.below hB339
              refine W_guard_yes rfl ?_
              refine W_pick_f rfl rfl rfl ?_
              refine W_nil ?_
              exact N_step rfl rfl (Below.refl _ _)
            intro w340 vq340 hB340 hH340
            have hS340 := hS17.below hB340
            refine W_pick_f rfl rfl rfl ?_
            refine W_nil ?_
            exact N_join _ ⟨rfl, F17, (Frz.le.refl _), hS340⟩ ⟨rfl, rfl, rfl, (look_bool rfl (by first | rfl | (rw [hb146, hb34, hb88]; first | done | rfl) | simp [hb34, hb88, hb146])), trivial⟩
        rintro E w33 ⟨rfl, F33, le33, hS33⟩
        refine N_code ?_
        refine C_cond rfl (fun hc341 => ?_) (fun hc341 => ?_)
        ·
         rw [if_t hc341] at H
         refine C_seq ?_
         refine C_region ?_
         refine W_assign rfl rfl ?_
         refine W_nil ?_
         refine N_code ?_
         obtain rfl := Option.some.inj H
         refine C_ret rfl rfl ?_
         exact ⟨F33, rfl, hS33.pick [] (by decide)⟩
        ·
         rw [if_f hc341] at H
         refine C_skip ?_
         refine N_block ?_
         exact N_join _ ⟨H, ⟨F33, rfl, (le17.trans le33), hS33⟩⟩ ⟨rfl, rfl, rfl, trivial⟩
      ·
       rintro E w16 ⟨H, F16, rfl, le16, hS16⟩
       dsimp only [cellarerlaw21_PlanSorts.k4] at H
       refine C_region ?_
       refine W_move rfl rfl ?_
       refine W_add rfl rfl rfl rfl ?_
       refine W_assign rfl rfl ?_
       refine W_nil ?_
       exact N_againM (wr (i13 + 1)) _ H ⟨F16, rfl, (le12.trans le16), hS16⟩ ⟨rfl, rfl, rfl, trivial⟩
     ·
      rw [if_f hc15] at H
      refine C_exit _ rfl ?_
      exact N_join _ ⟨H, ⟨F12, rfl, le12, hS12⟩⟩ ⟨rfl, rfl, trivial⟩
   ·
    rintro E w5 ⟨H, F5, rfl, le5, hS5⟩
    dsimp only [cellarerlaw21_PlanSorts.k2] at H
    refine C_seq ?_
    obtain ⟨r6, hr6, H⟩ := bd_some H
    refine C_join (fun E wq => E = [(2, .bool ((decide ((r2.length : Int) ≤ (x0.length : Int)) && (decide (0 < (r2.length : Int)) == decide (0 < (x0.length : Int)))) && r6))] ∧ ∃ F7 : Frz, F5.le F7 ∧ St [] w F F7 [.row Loc.t 37 ur2_0 r2] wq) ?_ ?_
    ·
     rcases Bool.eq_false_or_eq_true (decide ((r2.length : Int) ≤ (x0.length : Int))) with hb8 | hb8
     ·
      rcases Bool.eq_false_or_eq_true (decide (0 < (r2.length : Int)) == decide (0 < (x0.length : Int))) with hb9 | hb9
      ·
       refine C_region ?_
       refine W_move rfl rfl ?_
       refine W_lenv rfl Go.Proofs.Try.underlying49 rfl (hS5.rowLn (k := 0) rfl) ?_
       refine W_move rfl rfl ?_
       refine W_lenv rfl Go.Proofs.Try.underlying49 rfl h0.ln ?_
       refine W_leq rfl rfl rfl ?_
       refine W_move rfl rfl ?_
       refine W_known (t := 112) true rfl hb8 ?_
       refine W_guard_yes rfl ?_
       refine W_move rfl rfl ?_
       refine W_guard_yes rfl ?_
       refine W_lenv rfl Go.Proofs.Try.underlying49 rfl (hS5.rowLn (k := 0) rfl) ?_
       refine W_guard_yes rfl ?_
       refine W_gtr rfl rfl rfl ?_
       refine W_guard_yes rfl ?_
       refine W_move rfl rfl ?_
       refine W_guard_yes rfl ?_
       refine W_lenv rfl Go.Proofs.Try.underlying49 rfl h0.ln ?_
       refine W_guard_yes rfl ?_
       refine W_gtr rfl rfl rfl ?_
       refine W_guard_yes rfl ?_
       refine W_eqlb rfl Go.Proofs.Try.underlying4 rfl rfl ?_
       refine W_pick_t rfl rfl rfl ?_
       refine W_move rfl rfl ?_
       refine W_known (t := 121) true rfl hb9 ?_
       refine W_guard_yes rfl ?_
       have hy10 := hr6
       rw [only_t (by first | rfl | (rw [hb9, hb8]; first | done | rfl) | simp [hb8, hb9])] at hy10
       refine W_call rfl Ty.named30 rfl (cellarerlaw21_wakes_ok hS5.agree hy10) ?_
       rintro v11 w11 ⟨Fr6, rfl, hT11⟩
       have hS11 := hS5.lent hT11
       refine W_pick_t rfl rfl rfl ?_
       refine W_assign rfl rfl ?_
       refine W_nil ?_
       exact N_join _ ⟨rfl, F5, (Frz.le.refl _), hS11⟩ ⟨(look_bool rfl (by first | rfl | (rw [hb9, hb8]; first | done | rfl) | simp [hb8, hb9])), trivial⟩
      ·
       refine C_region ?_
       refine W_move rfl rfl ?_
       refine W_lenv rfl Go.Proofs.Try.underlying49 rfl (hS5.rowLn (k := 0) rfl) ?_
       refine W_move rfl rfl ?_
       refine W_lenv rfl Go.Proofs.Try.underlying49 rfl h0.ln ?_
       refine W_leq rfl rfl rfl ?_
       refine W_move rfl rfl ?_
       refine W_known (t := 112) true rfl hb8 ?_
       refine W_guard_yes rfl ?_
       refine W_move rfl rfl ?_
       refine W_guard_yes rfl ?_
       refine W_lenv rfl Go.Proofs.Try.underlying49 rfl (hS5.rowLn (k := 0) rfl) ?_
       refine W_guard_yes rfl ?_
       refine W_gtr rfl rfl rfl ?_
       refine W_guard_yes rfl ?_
       refine W_move rfl rfl ?_
       refine W_guard_yes rfl ?_
       refine W_lenv rfl Go.Proofs.Try.underlying49 rfl h0.ln ?_
       refine W_guard_yes rfl ?_
       refine W_gtr rfl rfl rfl ?_
       refine W_guard_yes rfl ?_
       refine W_eqlb rfl Go.Proofs.Try.underlying4 rfl rfl ?_
       refine W_pick_t rfl rfl rfl ?_
       refine W_move rfl rfl ?_
       refine W_known (t := 121) false rfl hb9 ?_
       refine W_guard_no rfl rfl rfl rfl rfl ?_
       refine W_pick_f rfl rfl rfl ?_
       refine W_assign rfl rfl ?_
       refine W_nil ?_
       exact N_join _ ⟨rfl, F5, (Frz.le.refl _), hS5⟩ ⟨(look_bool rfl (by first | rfl | (rw [hb9, hb8]; first | done | rfl) | simp [hb8, hb9])), trivial⟩
     ·
      refine C_region ?_
      refine W_move rfl rfl ?_
      refine W_lenv rfl Go.Proofs.Try.underlying49 rfl (hS5.rowLn (k := 0) rfl) ?_
      refine W_move rfl rfl ?_
      refine W_lenv rfl Go.Proofs.Try.underlying49 rfl h0.ln ?_
      refine W_leq rfl rfl rfl ?_
      refine W_move rfl rfl ?_
      refine W_known (t := 112) false rfl hb8 ?_
      refine W_guard_no rfl rfl rfl rfl rfl ?_
      refine W_guard_no rfl rfl rfl rfl rfl ?_
      refine W_guard_no rfl rfl rfl rfl rfl ?_
      refine W_guard_no rfl rfl rfl rfl rfl ?_
      refine W_guard_no rfl rfl rfl rfl rfl ?_
      refine W_guard_no rfl rfl rfl rfl rfl ?_
      refine W_guard_no rfl rfl rfl rfl rfl ?_
      refine W_pick_f rfl rfl rfl ?_
      refine W_move rfl rfl ?_
      refine W_guard_no rfl rfl rfl rfl rfl ?_
      refine W_pick_f rfl rfl rfl ?_
      refine W_assign rfl rfl ?_
      refine W_nil ?_
      exact N_join _ ⟨rfl, F5, (Frz.le.refl _), hS5⟩ ⟨(look_bool rfl (by first | rfl | (rw [hb8]; first | done | rfl) | simp [hb8])), trivial⟩
    rintro E w7 ⟨rfl, F7, le7, hS7⟩
    refine N_code ?_
    obtain rfl := Option.some.inj H
    refine C_ret rfl rfl ?_
    exact ⟨F7, rfl, hS7.pick [] (by decide)⟩

def cellarerkeep_TwinLocs (x0 : List Loc) : Option (List Loc) :=
  bd (app (α := Loc) [] x0) fun l1 =>
  some l1

theorem cellarerkeep_TwinLocs_ok {F : Frz} {w : World} {x0 : List Loc} {r : (List Loc)} {v0 : Value} (hA : Agree F w.heap) (h0 : SlF Loc.t F v0 x0) (H : cellarerkeep_TwinLocs x0 = some r) : Ret Try.prog 33 #[v0] w fun v w' => ∃ (F' : Frz) (q0 : Value), v = q0 ∧ St [] w F F' [.row Loc.t 37 q0 (r)] w' := by
 refine Ret_of (args := [v0]) Go.Proofs.Try.func33 rfl rfl ?_
 change C _ _ _ _ [(0, v0)] _
 have hS := St.entry hA
 dsimp only [cellarerkeep_TwinLocs] at H
 refine C_seq ?_
 refine C_region ?_
 refine W_assign rfl rfl ?_
 refine W_nil ?_
 refine N_code ?_
 refine C_seq ?_
 refine C_region ?_
 refine W_assign rfl rfl ?_
 refine W_nil ?_
 refine N_code ?_
 refine C_seq ?_
 obtain ⟨l1, hl1, H⟩ := bd_some H
 refine C_region ?_
 refine W_move rfl rfl ?_
 refine W_move rfl rfl ?_
 have hS3 := hS.nilRow Loc.t 37
 refine W_appM 0 rfl Go.Proofs.Try.underlying49 Ty.row37 rfl rfl rfl rfl rfl hS3 rfl (h0.src hS3.agree) hl1 ?_
 intro v2 w2 hS2
 refine W_assign rfl rfl ?_
 refine W_nil ?_
 refine N_code ?_
 obtain rfl := Option.some.inj H
 refine C_ret rfl rfl ?_
 exact ⟨F, v2, rfl, hS2⟩

def cellarerref18_Ahead (x0 : Loc) (x1 : Loc) : Option Bool :=
  if decide (x0.vol ≠ x1.vol) then
    some (decide (x0.vol < x1.vol))
  else
    if decide (x0.file ≠ x1.file) then
      some (decide (x0.file < x1.file))
    else
      if decide (x0.off ≠ x1.off) then
        some (decide (x0.off < x1.off))
      else
        some (decide (x0.len < x1.len))

theorem cellarerref18_Ahead_ok {F : Frz} {w : World} {x0 : Loc} {x1 : Loc} {r : Bool} (hA : Agree F w.heap) (H : cellarerref18_Ahead x0 x1 = some r) : Ret Try.prog 34 #[.agg (Loc.cells x0).toArray, .agg (Loc.cells x1).toArray] w fun v w' => ∃ (F' : Frz), v = .bool r ∧ St [] w F F' [] w' := by
 refine Ret_of (args := [.agg (Loc.cells x0).toArray, .agg (Loc.cells x1).toArray]) Go.Proofs.Try.func34 rfl rfl ?_
 change C _ _ _ _ [(0, .agg (Loc.cells x0).toArray), (1, .agg (Loc.cells x1).toArray)] _
 have hS := St.entry hA
 dsimp only [cellarerref18_Ahead] at H
 refine C_seq ?_
 refine C_region ?_
 refine W_bx (cs := [.int .i64 x0.vol, .int .i64 x0.file, .int .i64 x0.off, .int .i64 x0.len]) rfl rfl rfl hS ?_
 intro g1 w1 hS1
 refine W_bx (cs := [.int .i64 x1.vol, .int .i64 x1.file, .int .i64 x1.off, .int .i64 x1.len]) rfl rfl rfl hS1 ?_
 intro g2 w2 hS2
 refine W_assign rfl rfl ?_
 refine W_nil ?_
 refine N_code ?_
 refine C_seq ?_
 refine C_seq ?_
 refine C_region ?_
 refine W_field_pl 0 rfl Ty.field37_0 rfl ?_
 refine W_bld1 1 rfl Ty.cell3 rfl hS2 rfl rfl ?_
 refine W_field_pl 0 rfl Ty.field37_0 rfl ?_
 refine W_bld1 0 rfl Ty.cell3 rfl hS2 rfl rfl ?_
 refine W_neq rfl rfl rfl ?_
 refine W_nil ?_
 refine N_code ?_
 refine C_cond rfl (fun hc3 => ?_) (fun hc3 => ?_)
 ·
  rw [if_t hc3] at H
  refine C_seq ?_
  refine C_region ?_
  refine W_field_pl 0 rfl Ty.field37_0 rfl ?_
  refine W_bld1 1 rfl Ty.cell3 rfl hS2 rfl rfl ?_
  refine W_field_pl 0 rfl Ty.field37_0 rfl ?_
  refine W_bld1 0 rfl Ty.cell3 rfl hS2 rfl rfl ?_
  refine W_lss rfl rfl rfl ?_
  refine W_assign rfl rfl ?_
  refine W_nil ?_
  refine N_code ?_
  obtain rfl := Option.some.inj H
  refine C_ret rfl rfl ?_
  exact ⟨F, rfl, hS2.pick [] (by decide)⟩
 ·
  rw [if_f hc3] at H
  refine C_skip ?_
  refine N_code ?_
  refine C_seq ?_
  refine C_seq ?_
  refine C_region ?_
  refine W_field_pl 1 rfl Ty.field37_1 rfl ?_
  refine W_bld1 1 rfl Ty.cell3 rfl hS2 rfl rfl ?_
  refine W_field_pl 1 rfl Ty.field37_1 rfl ?_
  refine W_bld1 0 rfl Ty.cell3 rfl hS2 rfl rfl ?_
  refine W_neq rfl rfl rfl ?_
  refine W_nil ?_
  refine N_code ?_
  refine C_cond rfl (fun hc4 => ?_) (fun hc4 => ?_)
  ·
   rw [if_t hc4] at H
   refine C_seq ?_
   refine C_region ?_
   refine W_field_pl 1 rfl Ty.field37_1 rfl ?_
   refine W_bld1 1 rfl Ty.cell3 rfl hS2 rfl rfl ?_
   refine W_field_pl 1 rfl Ty.field37_1 rfl ?_
   refine W_bld1 0 rfl Ty.cell3 rfl hS2 rfl rfl ?_
   refine W_lss rfl rfl rfl ?_
   refine W_assign rfl rfl ?_
   refine W_nil ?_
   refine N_code ?_
   obtain rfl := Option.some.inj H
   refine C_ret rfl rfl ?_
   exact ⟨F, rfl, hS2.pick [] (by decide)⟩
  ·
   rw [if_f hc4] at H
   refine C_skip ?_
   refine N_code ?_
   refine C_seq ?_
   refine C_seq ?_
   refine C_region ?_
   refine W_field_pl 2 rfl Ty.field37_2 rfl ?_
   refine W_bld1 1 rfl Ty.cell3 rfl hS2 rfl rfl ?_
   refine W_field_pl 2 rfl Ty.field37_2 rfl ?_
   refine W_bld1 0 rfl Ty.cell3 rfl hS2 rfl rfl ?_
   refine W_neq rfl rfl rfl ?_
   refine W_nil ?_
   refine N_code ?_
   refine C_cond rfl (fun hc5 => ?_) (fun hc5 => ?_)
   ·
    rw [if_t hc5] at H
    refine C_seq ?_
    refine C_region ?_
    refine W_field_pl 2 rfl Ty.field37_2 rfl ?_
    refine W_bld1 1 rfl Ty.cell3 rfl hS2 rfl rfl ?_
    refine W_field_pl 2 rfl Ty.field37_2 rfl ?_
    refine W_bld1 0 rfl Ty.cell3 rfl hS2 rfl rfl ?_
    refine W_lss rfl rfl rfl ?_
    refine W_assign rfl rfl ?_
    refine W_nil ?_
    refine N_code ?_
    obtain rfl := Option.some.inj H
    refine C_ret rfl rfl ?_
    exact ⟨F, rfl, hS2.pick [] (by decide)⟩
   ·
    rw [if_f hc5] at H
    refine C_skip ?_
    refine N_code ?_
    refine C_seq ?_
    refine C_region ?_
    refine W_field_pl 3 rfl Ty.field37_3 rfl ?_
    refine W_bld1 1 rfl Ty.cell3 rfl hS2 rfl rfl ?_
    refine W_field_pl 3 rfl Ty.field37_3 rfl ?_
    refine W_bld1 0 rfl Ty.cell3 rfl hS2 rfl rfl ?_
    refine W_lss rfl rfl rfl ?_
    refine W_assign rfl rfl ?_
    refine W_nil ?_
    refine N_code ?_
    obtain rfl := Option.some.inj H
    refine C_ret rfl rfl ?_
    exact ⟨F, rfl, hS2.pick [] (by decide)⟩

def cellarerref20_Sort.k1 (l2 : List Loc) : Option (List Loc) :=
  some l2


def cellarerref20_Sort.k3 (i9 : Int) (rec10 : ((List Loc) × Int) → Option (List Loc)) (l13 : List Loc) : Option (List Loc) :=
  rec10 (l13, wr (i9 + 1))


def cellarerref20_Sort.k4 (x0 : List Loc) (l6 : List Loc) (i9 : Int) (rec10 : ((List Loc) × Int) → Option (List Loc)) (i17 : Int) : Option (List Loc) :=
  bd (only (decide (i17 < (l6.length : Int))) (ix l6 i17) (Loc.mk 0 0 0 0)) fun x18 =>
  bd (only (decide (i17 < (l6.length : Int))) (ix x0 i9) (Loc.mk 0 0 0 0)) fun x20 =>
  bd (only (decide (i17 < (l6.length : Int))) (cellarerkeep_Loc x18 x20) false) fun r22 =>
  if (decide (i17 < (l6.length : Int)) && r22) then
    cellarerref20_Sort.k3 i9 rec10 l6
  else
    bd (cut (α := Loc) l6 0 i17) fun l62 =>
    bd (app (α := Loc) [] l62) fun l64 =>
    bd (ix x0 i9) fun x66 =>
    bd (app (α := Loc) l64 [x66]) fun l69 =>
    bd (cut (α := Loc) l6 i17 (l6.length : Int)) fun l83 =>
    bd (app (α := Loc) l69 l83) fun l85 =>
    cellarerref20_Sort.k3 i9 rec10 l85


def cellarerref20_Sort.l5 (x0 : List Loc) (l6 : List Loc) (i9 : Int) (rec10 : ((List Loc) × Int) → Option (List Loc)) (rec89 : Int → Option (List Loc)) : Int → Option (List Loc)
  | i88 =>
    bd (only (decide (i88 < (l6.length : Int))) (ix l6 i88) (Loc.mk 0 0 0 0)) fun x90 =>
    bd (only (decide (i88 < (l6.length : Int))) (ix x0 i9) (Loc.mk 0 0 0 0)) fun x92 =>
    bd (only (decide (i88 < (l6.length : Int))) (cellarerref18_Ahead x90 x92) false) fun r94 =>
    if (decide (i88 < (l6.length : Int)) && r94) then
      rec89 (wr (i88 + 1))
    else
      cellarerref20_Sort.k4 x0 l6 i9 rec10 i88


def cellarerref20_Sort.l2 (x0 : List Loc) (rec10 : ((List Loc) × Int) → Option (List Loc)) : ((List Loc) × Int) → Option (List Loc)
  | (l6, i9) =>
    if decide (i9 < (x0.length : Int)) then
      loop (cellarerref20_Sort.l5 x0 l6 i9 rec10) 0
    else
      cellarerref20_Sort.k1 l6

def cellarerref20_Sort (x0 : List Loc) : Option (List Loc) :=
  loop (cellarerref20_Sort.l2 x0) ([], 0)

theorem cellarerref20_Sort_ok {F : Frz} {w : World} {x0 : List Loc} {r : (List Loc)} {v0 : Value} (hA : Agree F w.heap) (h0 : SlF Loc.t F v0 x0) (H : cellarerref20_Sort x0 = some r) : Ret Try.prog 35 #[v0] w fun v w' => ∃ (F' : Frz) (q0 : Value), v = q0 ∧ St [] w F F' [.row Loc.t 37 q0 (r)] w' := by
 refine Ret_of (args := [v0]) Go.Proofs.Try.func35 rfl rfl ?_
 change C _ _ _ _ [(0, v0)] _
 have hS := St.entry hA
 dsimp only [cellarerref20_Sort] at H
 refine C_seq ?_
 refine C_region ?_
 refine W_assign rfl rfl ?_
 refine W_nil ?_
 refine N_code ?_
 refine C_seq ?_
 refine C_region ?_
 refine W_assign rfl rfl ?_
 refine W_nil ?_
 refine N_code ?_
 refine C_seq_join (fun E wq => ∃ l2 : List Loc, cellarerref20_Sort.k1 l2 = some r ∧ ∃ (F1 : Frz) (u3 : Value), E = [(3, u3)] ∧ F.le F1 ∧ St [] w F F1 [.row Loc.t 37 u3 l2] wq) ?_ ?_
 ·
  refine C_seq ?_
  refine C_region ?_
  refine W_assign rfl rfl ?_
  refine W_nil ?_
  refine N_code ?_
  refine C_block ?_
  refine C_loopM (fun (s : (List Loc) × Int) E wq => ∃ (F5 : Frz) (u7 : Value), E = [(0, v0), (3, u7), (4, .int .i64 s.2)] ∧ F.le F5 ∧ St [] w F F5 [.row Loc.t 37 u7 s.1] wq) H ?_ ?_
  ·
   have hS135 := hS.nilRow Loc.t 37
   exact ⟨_, ⟨F, (.slice none 0 0), rfl, (Frz.le.refl _), hS135⟩, ⟨rfl, rfl, rfl, trivial⟩⟩
  ·
   rintro rec10 ⟨l6, i9⟩ E w5 hI H
   try dsimp only at hI
   obtain ⟨F5, u7, rfl, le5, hS5⟩ := hI
   dsimp only [cellarerref20_Sort.l2] at H
   refine C_seq ?_
   refine C_seq ?_
   refine C_region ?_
   refine W_move rfl rfl ?_
   refine W_move rfl rfl ?_
   refine W_lenv rfl Go.Proofs.Try.underlying49 rfl h0.ln ?_
   refine W_lss rfl rfl rfl ?_
   refine W_nil ?_
   refine N_code ?_
   refine C_cond rfl (fun hc11 => ?_) (fun hc11 => ?_)
   ·
    rw [if_t hc11] at H
    refine C_skip ?_
    refine N_code ?_
    refine C_seq_join (fun E wq => ∃ l13 : List Loc, cellarerref20_Sort.k3 i9 rec10 l13 = some r ∧ ∃ (F12 : Frz) (u14 : Value), E = [(0, v0), (3, u14), (4, .int .i64 i9)] ∧ F5.le F12 ∧ St [] w F F12 [.row Loc.t 37 u14 l13] wq) ?_ ?_
    ·
     refine C_block ?_
     refine C_seq ?_
     refine C_region ?_
     refine W_assign rfl rfl ?_
     refine W_nil ?_
     refine N_code ?_
     refine C_seq_join (fun E wq => ∃ i17 : Int, cellarerref20_Sort.k4 x0 l6 i9 rec10 i17 = some r ∧ ∃ (F16 : Frz), E = [(0, v0), (3, u7), (4, .int .i64 i9), (5, .int .i64 i17)] ∧ F5.le F16 ∧ St [] w F F16 [.row Loc.t 37 u7 l6] wq) ?_ ?_
     ·
      refine C_block ?_
      refine C_loopM (fun (s : Int) E wq => ∃ (F87 : Frz), E = [(0, v0), (3, u7), (4, .int .i64 i9), (5, .int .i64 s)] ∧ F5.le F87 ∧ St [] w F F87 [.row Loc.t 37 u7 l6] wq) H ?_ ?_
      ·
       exact ⟨_, ⟨F5, rfl, (Frz.le.refl _), hS5⟩, ⟨rfl, rfl, rfl, rfl, trivial⟩⟩
      ·
       rintro rec89 i88 E w87 hI H
       try dsimp only at hI
       obtain ⟨F87, rfl, le87, hS87⟩ := hI
       dsimp only [cellarerref20_Sort.l5] at H
       refine C_seq ?_
       refine C_seq ?_
       obtain ⟨x90, hx90, H⟩ := bd_some H
       obtain ⟨x92, hx92, H⟩ := bd_some H
       obtain ⟨r94, hr94, H⟩ := bd_some H
       refine C_join (fun E wq => E = [(0, v0), (3, u7), (4, .int .i64 i9), (5, .int .i64 i88), (27, .bool (decide (i88 < (l6.length : Int)) && r94))] ∧ ∃ F95 : Frz, F87.le F95 ∧ St [] w F F95 [.row Loc.t 37 u7 l6] wq) ?_ ?_
       ·
        rcases Bool.eq_false_or_eq_true (decide (i88 < (l6.length : Int))) with hb96 | hb96
        ·
         have hy97 := hx90
         rw [only_t hb96] at hy97
         obtain ⟨hp98, hy98⟩ := ix_some hy97
         obtain ⟨cs98, hr98, he98⟩ := hS87.rowAt (k := 0) rfl hy98
         obtain rfl := hr98
         replace he98 : El _ _ 4 _ _ := he98
         have hy99 := hx92
         rw [only_t hb96] at hy99
         obtain ⟨hp100, hy100⟩ := ix_some hy99
         obtain ⟨cs100, hr100, he100⟩ := (h0.mono (le5.trans le87)).at_ hy100
         obtain rfl := hr100
         replace he100 : Elf _ _ 4 _ _ := he100
         apply C_draw 14 [[], [], [1], [0, 2], [3], [4], [4], [5, 6, 4], [7, 4], [4], [4], [9, 10, 4], [11, 4], [8, 12, 4]] [.val (.int .i64 i88), .val (u7), .val (.int .i64 (l6.length : Int)), .val (.bool (decide (i88 < (l6.length : Int)))), .val (.bool true), .val (u7), .val (.int .i64 i88), .val (elp u7 (i88.toNat * 4)), .val (.agg (Loc.cells x90).toArray), .val (v0), .val (.int .i64 i9), .val (elp v0 (i9.toNat * 4)), .val (.agg (Loc.cells x92).toArray), .val (.bool r94)] Ty.mixed rfl rfl (by kernel_rfl) (by kernel_rfl) rfl
         ·
          refine ⟨?_, ?_, ?_, ?_, ?_, ?_, ?_, ?_, ?_, ?_, ?_, ?_, ?_, ?_, trivial⟩
          ·
           intro w101 vq101 hB101 hH101
           have hS101 := hS87.below hB101
           refine W_move rfl rfl ?_
           refine W_nil ?_
           exact N_step rfl rfl (Below.refl _ _)
          ·
           intro w102 vq102 hB102 hH102
           have hS102 := hS87.below hB102
           refine W_move rfl rfl ?_
           refine W_nil ?_
           exact N_step rfl rfl (Below.refl _ _)
          ·
           intro w103 vq103 hB103 hH103
           have hS103 := hS87.below hB103
           refine W_lenv rfl Go.Proofs.Try.underlying49 rfl (hS103.rowLn (k := 0) rfl) ?_
           refine W_nil ?_
           exact N_step rfl rfl (Below.refl _ _)
          ·
           intro w104 vq104 hB104 hH104
           have hS104 := hS87.below hB104
           refine W_lss rfl rfl rfl ?_
           refine W_nil ?_
           exact N_step rfl rfl (Below.refl _ _)
          ·
           intro w105 vq105 hB105 hH105
           have hS105 := hS87.below hB105
           refine W_move rfl rfl ?_
           refine W_nil ?_
           exact N_step rfl (congrArg Value.bool hb96) (Below.refl _ _)
          ·
           intro w106 vq106 hB106 hH106
           have hS106 := hS87.below hB106
           refine W_guard_yes rfl ?_
           refine W_move rfl rfl ?_
           refine W_nil ?_
           exact N_step rfl rfl (Below.refl _ _)
          ·
           intro w107 vq107 hB107 hH107
           have hS107 := hS87.below hB107
           refine W_guard_yes rfl ?_
           refine W_move rfl rfl ?_
           refine W_nil ?_
           exact N_step rfl rfl (Below.refl _ _)
          ·
           intro w108 vq108 hB108 hH108
           have hS108 := hS87.below hB108
           refine W_guard_yes rfl ?_
           refine W_ix rfl Go.Proofs.Try.underlying49 Ty.cells37 Ty.info37 rfl rfl (he98.below hB108) hp98 rfl ?_
           refine W_nil ?_
           exact N_step rfl rfl (Below.refl _ _)
          ·
           intro w109 vq109 hB109 hH109
           have hS109 := hS87.below hB109
           refine W_guard_yes rfl ?_
           refine W_ldg 0 ((Loc.cells x90)) rfl Ty.agg37 Ty.size37 rfl (he98.below hB109) (by omega) (fun q u h => sub_at (post := []) rfl h) ?_
           refine W_nil ?_
           exact N_step rfl rfl (Below.refl _ _)
          ·
           intro w110 vq110 hB110 hH110
           have hS110 := hS87.below hB110
           refine W_guard_yes rfl ?_
           refine W_move rfl rfl ?_
           refine W_nil ?_
           exact N_step rfl rfl (Below.refl _ _)
          ·
           intro w111 vq111 hB111 hH111
           have hS111 := hS87.below hB111
           refine W_guard_yes rfl ?_
           refine W_move rfl rfl ?_
           refine W_nil ?_
           exact N_step rfl rfl (Below.refl _ _)
          ·
           intro w112 vq112 hB112 hH112
           have hS112 := hS87.below hB112
           refine W_guard_yes rfl ?_
           refine W_ix rfl Go.Proofs.Try.underlying49 Ty.cells37 Ty.info37 rfl rfl (he100.el hS112.agree) hp100 rfl ?_
           refine W_nil ?_
           exact N_step rfl rfl (Below.refl _ _)
          ·
           intro w113 vq113 hB113 hH113
           have hS113 := hS87.below hB113
           refine W_guard_yes rfl ?_
           refine W_ldg 0 ((Loc.cells x92)) rfl Ty.agg37 Ty.size37 rfl (he100.el hS113.agree) (by omega) (fun q u h => sub_at (post := []) rfl h) ?_
           refine W_nil ?_
           exact N_step rfl rfl (Below.refl _ _)
          ·
           intro w114 vq114 hB114 hH114
           have hS114 := hS87.below hB114
           refine W_guard_yes rfl ?_
           have hy115 := hr94
           rw [only_t hb96] at hy115
           refine W_call rfl Ty.named34 rfl (cellarerref18_Ahead_ok hS114.agree hy115) ?_
           rintro v116 w116 ⟨Fr94, rfl, hT116⟩
           have hS116 := hS114.lent hT116
           refine W_nil ?_
           exact N_step rfl rfl hT116.below0
         intro w117 vq117 hB117 hH117
         have hS117 := hS87.below hB117
         refine W_pick_t rfl rfl rfl ?_
         refine W_nil ?_
         exact N_join _ ⟨rfl, F87, (Frz.le.refl _), hS117⟩ ⟨rfl, rfl, rfl, rfl, (look_bool rfl (by first | rfl | (rw [hb96]; first | done | rfl) | simp [hb96])), trivial⟩
        ·
         apply C_draw 14 [[], [], [1], [0, 2], [3], [4], [4], [5, 6, 4], [7, 4], [4], [4], [9, 10, 4], [11, 4], [8, 12, 4]] [.val (.int .i64 i88), .val (u7), .val (.int .i64 (l6.length : Int)), .val (.bool (decide (i88 < (l6.length : Int)))), .val (.bool false), .val undef, .val undef, .val undef, .val undef, .val undef, .val undef, .val undef, .val undef, .val undef] Ty.mixed rfl rfl (by kernel_rfl) (by kernel_rfl) rfl
         ·
          refine ⟨?_, ?_, ?_, ?_, ?_, ?_, ?_, ?_, ?_, ?_, ?_, ?_, ?_, ?_, trivial⟩
          ·
           intro w118 vq118 hB118 hH118
           have hS118 := hS87.below hB118
           refine W_move rfl rfl ?_
           refine W_nil ?_
           exact N_step rfl rfl (Below.refl _ _)
          ·
           intro w119 vq119 hB119 hH119
           have hS119 := hS87.below hB119
           refine W_move rfl rfl ?_
           refine W_nil ?_
           exact N_step rfl rfl (Below.refl _ _)
          ·
           intro w120 vq120 hB120 hH120
           have hS120 := hS87.below hB120
           refine W_lenv rfl Go.Proofs.Try.underlying49 rfl (hS120.rowLn (k := 0) rfl) ?_
           refine W_nil ?_
           exact N_step rfl rfl (Below.refl _ _)
          ·
           intro w121 vq121 hB121 hH121
           have hS121 := hS87.below hB121
           refine W_lss rfl rfl rfl ?_
           refine W_nil ?_
           exact N_step rfl rfl (Below.refl _ _)
          ·
           intro w122 vq122 hB122 hH122
           have hS122 := hS87.below hB122
           refine W_move rfl rfl ?_
           refine W_nil ?_
           exact N_step rfl (congrArg Value.bool hb96) (Below.refl _ _)
          ·
           intro w123 vq123 hB123 hH123
           have hS123 := hS87.below hB123
           refine W_guard_no rfl rfl rfl rfl rfl ?_
           refine W_nil ?_
           exact N_step rfl rfl (Below.refl _ _)
          ·
           intro w124 vq124 hB124 hH124
           have hS124 := hS87.below hB124
           refine W_guard_no rfl rfl rfl rfl rfl ?_
           refine W_nil ?_
           exact N_step rfl rfl (Below.refl _ _)
          ·
           intro w125 vq125 hB125 hH125
           have hS125 := hS87.below hB125
           refine W_guard_no rfl rfl rfl rfl rfl ?_
           refine W_nil ?_
           exact N_step rfl rfl (Below.refl _ _)
          ·
           intro w126 vq126 hB126 hH126
           have hS126 := hS87.below hB126
           refine W_guard_no rfl rfl rfl rfl rfl ?_
           refine W_nil ?_
           exact N_step rfl rfl (Below.refl _ _)
          ·
           intro w127 vq127 hB127 hH127
           have hS127 := hS87.below hB127
           refine W_guard_no rfl rfl rfl rfl rfl ?_
           refine W_nil ?_
           exact N_step rfl rfl (Below.refl _ _)
          ·
           intro w128 vq128 hB128 hH128
           have hS128 := hS87.below hB128
           refine W_guard_no rfl rfl rfl rfl rfl ?_
           refine W_nil ?_
           exact N_step rfl rfl (Below.refl _ _)
          ·
           intro w129 vq129 hB129 hH129
           have hS129 := hS87.below hB129
           refine W_guard_no rfl rfl rfl rfl rfl ?_
           refine W_nil ?_
           exact N_step rfl rfl (Below.refl _ _)
          ·
           intro w130 vq130 hB130 hH130
           have hS130 := hS87.below hB130
           refine W_guard_no rfl rfl rfl rfl rfl ?_
           refine W_nil ?_
           exact N_step rfl rfl (Below.refl _ _)
          ·
           intro w131 vq131 hB131 hH131
           have hS131 := hS87.below hB131
           refine W_guard_no rfl rfl rfl rfl rfl ?_
           refine W_nil ?_
           exact N_step rfl rfl (Below.refl _ _)
         intro w132 vq132 hB132 hH132
         have hS132 := hS87.below hB132
         refine W_pick_f rfl rfl rfl ?_
         refine W_nil ?_
         exact N_join _ ⟨rfl, F87, (Frz.le.refl _), hS132⟩ ⟨rfl, rfl, rfl, rfl, (look_bool rfl (by first | rfl | (rw [hb96]; first | done | rfl) | simp [hb96])), trivial⟩
       rintro E w95 ⟨rfl, F95, le95, hS95⟩
       refine N_code ?_
       refine C_cond rfl (fun hc133 => ?_) (fun hc133 => ?_)
       ·
        rw [if_t hc133] at H
        refine C_skip ?_
        refine N_code ?_
        refine C_block ?_
        refine C_region ?_
        refine W_move rfl rfl ?_
        refine W_add rfl rfl rfl rfl ?_
        refine W_assign rfl rfl ?_
        refine W_nil ?_
        refine N_block ?_
        exact N_againM (wr (i88 + 1)) _ H ⟨F95, rfl, (le87.trans le95), hS95⟩ ⟨rfl, rfl, rfl, rfl, trivial⟩
       ·
        rw [if_f hc133] at H
        refine C_exit _ rfl ?_
        exact N_join _ ⟨i88, H, ⟨F95, rfl, (le87.trans le95), hS95⟩⟩ ⟨rfl, rfl, rfl, rfl, trivial⟩
     ·
      rintro E w16 ⟨i17, H, F16, rfl, le16, hS16⟩
      dsimp only [cellarerref20_Sort.k4] at H
      refine C_seq ?_
      refine C_seq ?_
      obtain ⟨x18, hx18, H⟩ := bd_some H
      obtain ⟨x20, hx20, H⟩ := bd_some H
      obtain ⟨r22, hr22, H⟩ := bd_some H
      refine C_join (fun E wq => E = [(0, v0), (3, u7), (4, .int .i64 i9), (5, .int .i64 i17), (44, .bool (decide (i17 < (l6.length : Int)) && r22))] ∧ ∃ F23 : Frz, F16.le F23 ∧ St [] w F F23 [.row Loc.t 37 u7 l6] wq) ?_ ?_
      ·
       rcases Bool.eq_false_or_eq_true (decide (i17 < (l6.length : Int))) with hb24 | hb24
       ·
        have hy25 := hx18
        rw [only_t hb24] at hy25
        obtain ⟨hp26, hy26⟩ := ix_some hy25
        obtain ⟨cs26, hr26, he26⟩ := hS16.rowAt (k := 0) rfl hy26
        obtain rfl := hr26
        replace he26 : El _ _ 4 _ _ := he26
        have hy27 := hx20
        rw [only_t hb24] at hy27
        obtain ⟨hp28, hy28⟩ := ix_some hy27
        obtain ⟨cs28, hr28, he28⟩ := (h0.mono (le5.trans le16)).at_ hy28
        obtain rfl := hr28
        replace he28 : Elf _ _ 4 _ _ := he28
        apply C_draw 14 [[], [], [1], [0, 2], [3], [4], [4], [5, 6, 4], [7, 4], [4], [4], [9, 10, 4], [11, 4], [8, 12, 4]] [.val (.int .i64 i17), .val (u7), .val (.int .i64 (l6.length : Int)), .val (.bool (decide (i17 < (l6.length : Int)))), .val (.bool true), .val (u7), .val (.int .i64 i17), .val (elp u7 (i17.toNat * 4)), .val (.agg (Loc.cells x18).toArray), .val (v0), .val (.int .i64 i9), .val (elp v0 (i9.toNat * 4)), .val (.agg (Loc.cells x20).toArray), .val (.bool r22)] Ty.mixed rfl rfl (by kernel_rfl) (by kernel_rfl) rfl
        ·
         refine ⟨?_, ?_, ?_, ?_, ?_, ?_, ?_, ?_, ?_, ?_, ?_, ?_, ?_, ?_, trivial⟩
         ·
          intro w29 vq29 hB29 hH29
          have hS29 := hS16.below hB29
          refine W_move rfl rfl ?_
          refine W_nil ?_
          exact N_step rfl rfl (Below.refl _ _)
         ·
          intro w30 vq30 hB30 hH30
          have hS30 := hS16.below hB30
          refine W_move rfl rfl ?_
          refine W_nil ?_
          exact N_step rfl rfl (Below.refl _ _)
         ·
          intro w31 vq31 hB31 hH31
          have hS31 := hS16.below hB31
          refine W_lenv rfl Go.Proofs.Try.underlying49 rfl (hS31.rowLn (k := 0) rfl) ?_
          refine W_nil ?_
          exact N_step rfl rfl (Below.refl _ _)
         ·
          intro w32 vq32 hB32 hH32
          have hS32 := hS16.below hB32
          refine W_lss rfl rfl rfl ?_
          refine W_nil ?_
          exact N_step rfl rfl (Below.refl _ _)
         ·
          intro w33 vq33 hB33 hH33
          have hS33 := hS16.below hB33
          refine W_move rfl rfl ?_
          refine W_nil ?_
          exact N_step rfl (congrArg Value.bool hb24) (Below.refl _ _)
         ·
          intro w34 vq34 hB34 hH34
          have hS34 := hS16.below hB34
          refine W_guard_yes rfl ?_
          refine W_move rfl rfl ?_
          refine W_nil ?_
          exact N_step rfl rfl (Below.refl _ _)
         ·
          intro w35 vq35 hB35 hH35
          have hS35 := hS16.below hB35
          refine W_guard_yes rfl ?_
          refine W_move rfl rfl ?_
          refine W_nil ?_
          exact N_step rfl rfl (Below.refl _ _)
         ·
          intro w36 vq36 hB36 hH36
          have hS36 := hS16.below hB36
          refine W_guard_yes rfl ?_
          refine W_ix rfl Go.Proofs.Try.underlying49 Ty.cells37 Ty.info37 rfl rfl (he26.below hB36) hp26 rfl ?_
          refine W_nil ?_
          exact N_step rfl rfl (Below.refl _ _)
         ·
          intro w37 vq37 hB37 hH37
          have hS37 := hS16.below hB37
          refine W_guard_yes rfl ?_
          refine W_ldg 0 ((Loc.cells x18)) rfl Ty.agg37 Ty.size37 rfl (he26.below hB37) (by omega) (fun q u h => sub_at (post := []) rfl h) ?_
          refine W_nil ?_
          exact N_step rfl rfl (Below.refl _ _)
         ·
          intro w38 vq38 hB38 hH38
          have hS38 := hS16.below hB38
          refine W_guard_yes rfl ?_
          refine W_move rfl rfl ?_
          refine W_nil ?_
          exact N_step rfl rfl (Below.refl _ _)
         ·
          intro w39 vq39 hB39 hH39
          have hS39 := hS16.below hB39
          refine W_guard_yes rfl ?_
          refine W_move rfl rfl ?_
          refine W_nil ?_
          exact N_step rfl rfl (Below.refl _ _)
         ·
          intro w40 vq40 hB40 hH40
          have hS40 := hS16.below hB40
          refine W_guard_yes rfl ?_
          refine W_ix rfl Go.Proofs.Try.underlying49 Ty.cells37 Ty.info37 rfl rfl (he28.el hS40.agree) hp28 rfl ?_
          refine W_nil ?_
          exact N_step rfl rfl (Below.refl _ _)
         ·
          intro w41 vq41 hB41 hH41
          have hS41 := hS16.below hB41
          refine W_guard_yes rfl ?_
          refine W_ldg 0 ((Loc.cells x20)) rfl Ty.agg37 Ty.size37 rfl (he28.el hS41.agree) (by omega) (fun q u h => sub_at (post := []) rfl h) ?_
          refine W_nil ?_
          exact N_step rfl rfl (Below.refl _ _)
         ·
          intro w42 vq42 hB42 hH42
          have hS42 := hS16.below hB42
          refine W_guard_yes rfl ?_
          have hy43 := hr22
          rw [only_t hb24] at hy43
          refine W_call rfl Ty.named24 rfl (cellarerkeep_Loc_ok hS42.agree hy43) ?_
          rintro v44 w44 ⟨Fr22, rfl, hT44⟩
          have hS44 := hS42.lent hT44
          refine W_nil ?_
          exact N_step rfl rfl hT44.below0
        intro w45 vq45 hB45 hH45
        have hS45 := hS16.below hB45
        refine W_pick_t rfl rfl rfl ?_
        refine W_nil ?_
        exact N_join _ ⟨rfl, F16, (Frz.le.refl _), hS45⟩ ⟨rfl, rfl, rfl, rfl, (look_bool rfl (by first | rfl | (rw [hb24]; first | done | rfl) | simp [hb24])), trivial⟩
       ·
        apply C_draw 14 [[], [], [1], [0, 2], [3], [4], [4], [5, 6, 4], [7, 4], [4], [4], [9, 10, 4], [11, 4], [8, 12, 4]] [.val (.int .i64 i17), .val (u7), .val (.int .i64 (l6.length : Int)), .val (.bool (decide (i17 < (l6.length : Int)))), .val (.bool false), .val undef, .val undef, .val undef, .val undef, .val undef, .val undef, .val undef, .val undef, .val undef] Ty.mixed rfl rfl (by kernel_rfl) (by kernel_rfl) rfl
        ·
         refine ⟨?_, ?_, ?_, ?_, ?_, ?_, ?_, ?_, ?_, ?_, ?_, ?_, ?_, ?_, trivial⟩
         ·
          intro w46 vq46 hB46 hH46
          have hS46 := hS16.below hB46
          refine W_move rfl rfl ?_
          refine W_nil ?_
          exact N_step rfl rfl (Below.refl _ _)
         ·
          intro w47 vq47 hB47 hH47
          have hS47 := hS16.below hB47
          refine W_move rfl rfl ?_
          refine W_nil ?_
          exact N_step rfl rfl (Below.refl _ _)
         ·
          intro w48 vq48 hB48 hH48
          have hS48 := hS16.below hB48
          refine W_lenv rfl Go.Proofs.Try.underlying49 rfl (hS48.rowLn (k := 0) rfl) ?_
          refine W_nil ?_
          exact N_step rfl rfl (Below.refl _ _)
         ·
          intro w49 vq49 hB49 hH49
          have hS49 := hS16.below hB49
          refine W_lss rfl rfl rfl ?_
          refine W_nil ?_
          exact N_step rfl rfl (Below.refl _ _)
         ·
          intro w50 vq50 hB50 hH50
          have hS50 := hS16.below hB50
          refine W_move rfl rfl ?_
          refine W_nil ?_
          exact N_step rfl (congrArg Value.bool hb24) (Below.refl _ _)
         ·
          intro w51 vq51 hB51 hH51
          have hS51 := hS16.below hB51
          refine W_guard_no rfl rfl rfl rfl rfl ?_
          refine W_nil ?_
          exact N_step rfl rfl (Below.refl _ _)
         ·
          intro w52 vq52 hB52 hH52
          have hS52 := hS16.below hB52
          refine W_guard_no rfl rfl rfl rfl rfl ?_
          refine W_nil ?_
          exact N_step rfl rfl (Below.refl _ _)
         ·
          intro w53 vq53 hB53 hH53
          have hS53 := hS16.below hB53
          refine W_guard_no rfl rfl rfl rfl rfl ?_
          refine W_nil ?_
          exact N_step rfl rfl (Below.refl _ _)
         ·
          intro w54 vq54 hB54 hH54
          have hS54 := hS16.below hB54
          refine W_guard_no rfl rfl rfl rfl rfl ?_
          refine W_nil ?_
          exact N_step rfl rfl (Below.refl _ _)
         ·
          intro w55 vq55 hB55 hH55
          have hS55 := hS16.below hB55
          refine W_guard_no rfl rfl rfl rfl rfl ?_
          refine W_nil ?_
          exact N_step rfl rfl (Below.refl _ _)
         ·
          intro w56 vq56 hB56 hH56
          have hS56 := hS16.below hB56
          refine W_guard_no rfl rfl rfl rfl rfl ?_
          refine W_nil ?_
          exact N_step rfl rfl (Below.refl _ _)
         ·
          intro w57 vq57 hB57 hH57
          have hS57 := hS16.below hB57
          refine W_guard_no rfl rfl rfl rfl rfl ?_
          refine W_nil ?_
          exact N_step rfl rfl (Below.refl _ _)
         ·
          intro w58 vq58 hB58 hH58
          have hS58 := hS16.below hB58
          refine W_guard_no rfl rfl rfl rfl rfl ?_
          refine W_nil ?_
          exact N_step rfl rfl (Below.refl _ _)
         ·
          intro w59 vq59 hB59 hH59
          have hS59 := hS16.below hB59
          refine W_guard_no rfl rfl rfl rfl rfl ?_
          refine W_nil ?_
          exact N_step rfl rfl (Below.refl _ _)
        intro w60 vq60 hB60 hH60
        have hS60 := hS16.below hB60
        refine W_pick_f rfl rfl rfl ?_
        refine W_nil ?_
        exact N_join _ ⟨rfl, F16, (Frz.le.refl _), hS60⟩ ⟨rfl, rfl, rfl, rfl, (look_bool rfl (by first | rfl | (rw [hb24]; first | done | rfl) | simp [hb24])), trivial⟩
      rintro E w23 ⟨rfl, F23, le23, hS23⟩
      refine N_code ?_
      refine C_cond rfl (fun hc61 => ?_) (fun hc61 => ?_)
      ·
       rw [if_t hc61] at H
       refine C_exit _ rfl ?_
       exact N_join _ ⟨l6, H, ⟨F23, u7, rfl, (le16.trans le23), hS23⟩⟩ ⟨rfl, rfl, rfl, trivial⟩
      ·
       rw [if_f hc61] at H
       refine C_skip ?_
       refine N_code ?_
       refine C_seq ?_
       refine C_region ?_
       refine W_assign rfl rfl ?_
       refine W_nil ?_
       refine N_code ?_
       refine C_seq ?_
       obtain ⟨l62, hl62, H⟩ := bd_some H
       obtain ⟨l64, hl64, H⟩ := bd_some H
       obtain ⟨x66, hx66, H⟩ := bd_some H
       obtain ⟨l69, hl69, H⟩ := bd_some H
       obtain ⟨hp71, hy71⟩ := ix_some hx66
       obtain ⟨cs71, hr71, he71⟩ := (h0.mono ((le5.trans le16).trans le23)).at_ hy71
       obtain rfl := hr71
       replace he71 : Elf _ _ 4 _ _ := he71
       apply C_draw 10 [[], [], [], [1, 2], [0, 3], [], [], [5, 6], [7], [8]] [.val (.slice none 0 0), .val (u7), .val (.int .i64 i17), .pred (fun v wr => Src Loc.t F23 wr v l62) stable_src, .pred (fun v wr => Ob.ok F23 wr (.row Loc.t 37 v l64) ∧ ∀ g, v.ownBlock = some g → w23.heap.size ≤ g) stable_row, .val (v0), .val (.int .i64 i9), .val (elp v0 (i9.toNat * 4)), .val (.agg (Loc.cells x66).toArray), .pred (fun v wr => Src Loc.t F23 wr v [x66]) stable_src] Ty.mixed rfl rfl (by kernel_rfl) (by kernel_rfl) rfl
       ·
        refine ⟨?_, ?_, ?_, ?_, ?_, ?_, ?_, ?_, ?_, ?_, trivial⟩
        ·
         intro w72 vq72 hB72 hH72
         have hS72 := hS23.below hB72
         refine W_move rfl rfl ?_
         refine W_nil ?_
         exact N_step rfl rfl (Below.refl _ _)
        ·
         intro w73 vq73 hB73 hH73
         have hS73 := hS23.below hB73
         refine W_move rfl rfl ?_
         refine W_nil ?_
         exact N_step rfl rfl (Below.refl _ _)
        ·
         intro w74 vq74 hB74 hH74
         have hS74 := hS23.below hB74
         refine W_move rfl rfl ?_
         refine W_nil ?_
         exact N_step rfl rfl (Below.refl _ _)
        ·
         intro w75 vq75 hB75 hH75
         have hS75 := hS23.below hB75
         refine W_cutS 0 i17 rfl Go.Proofs.Try.underlying49 Ty.cells37 Ty.info37 rfl rfl ⟨_, rfl⟩ (hS75.rowSrc (j := 0) rfl) hl62 ?_
         intro q63 hv63
         refine W_nil ?_
         exact N_step rfl hv63 (Below.refl _ _)
        ·
         intro w76 vq76 hB76 hH76
         obtain ⟨_, hp76_3, _⟩ := hH76
         have hS76 := hS23.below hB76
         refine W_app0 (t := Loc.t) rfl Go.Proofs.Try.underlying49 Ty.row37 rfl rfl rfl rfl rfl hS76.agree hp76_3 hl64 ?_
         intro v65 w65 hB65 hO65 hg65
         refine W_nil ?_
         exact N_step rfl ⟨hO65, fun g hg => Nat.le_trans hB76.size (hg65 g hg)⟩ hB65
        ·
         intro w77 vq77 hB77 hH77
         have hS77 := hS23.below hB77
         refine W_move rfl rfl ?_
         refine W_nil ?_
         exact N_step rfl rfl (Below.refl _ _)
        ·
         intro w78 vq78 hB78 hH78
         have hS78 := hS23.below hB78
         refine W_move rfl rfl ?_
         refine W_nil ?_
         exact N_step rfl rfl (Below.refl _ _)
        ·
         intro w79 vq79 hB79 hH79
         have hS79 := hS23.below hB79
         refine W_ix rfl Go.Proofs.Try.underlying49 Ty.cells37 Ty.info37 rfl rfl (he71.el hS79.agree) hp71 rfl ?_
         refine W_nil ?_
         exact N_step rfl rfl (Below.refl _ _)
        ·
         intro w80 vq80 hB80 hH80
         have hS80 := hS23.below hB80
         refine W_ldg 0 ((Loc.cells x66)) rfl Ty.agg37 Ty.size37 rfl (he71.el hS80.agree) (by omega) (fun q u h => sub_at (post := []) rfl h) ?_
         refine W_nil ?_
         exact N_step rfl rfl (Below.refl _ _)
        ·
         intro w81 vq81 hB81 hH81
         have hS81 := hS23.below hB81
         refine W_bs0 (t := Loc.t) [(Loc.cells x66)] [x66] rfl Go.Proofs.Try.underlying49 Ty.cells37 rfl rfl Ty.zero37 rfl rfl ⟨rfl, trivial⟩ rfl rfl hS81.agree ?_
         intro u68 w68 hB68 hs68
         refine W_nil ?_
         exact N_step rfl hs68 hB68
       intro w82 vq82 hB82 hH82
       obtain ⟨_, _, _, hp82_3, hp82_4, _, _, _, _, hp82_9, _⟩ := hH82
       have hS82 := hS23.below hB82
       have hS82 := hS23.fresh hB82 hp82_4.1 hp82_4.2
       refine W_appM 0 rfl Go.Proofs.Try.underlying49 Ty.row37 rfl rfl rfl rfl rfl hS82 rfl hp82_9 hl69 ?_
       intro v70 w70 hS70
       refine W_assign rfl rfl ?_
       refine W_nil ?_
       refine N_code ?_
       obtain ⟨l83, hl83, H⟩ := bd_some H
       obtain ⟨l85, hl85, H⟩ := bd_some H
       refine C_region ?_
       refine W_move rfl rfl ?_
       refine W_move rfl rfl ?_
       refine W_move rfl rfl ?_
       refine W_cutR 1 i17 (l6.length : Int) rfl Go.Proofs.Try.underlying49 Ty.cells37 Ty.info37 rfl ⟨_, rfl⟩ rfl hS70 rfl hl83 ?_
       intro q84 hv84 hw84
       refine W_appM 0 rfl Go.Proofs.Try.underlying49 Ty.row37 rfl rfl rfl rfl rfl hS70 rfl hv84 hl85 ?_
       intro v86 w86 hS86
       refine W_assign rfl rfl ?_
       refine W_nil ?_
       refine N_block ?_
       exact N_join _ ⟨l85, H, ⟨F23, v86, rfl, (le16.trans le23), hS86.pick [0] (by decide)⟩⟩ ⟨rfl, rfl, rfl, trivial⟩
    ·
     rintro E w12 ⟨l13, H, F12, u14, rfl, le12, hS12⟩
     dsimp only [cellarerref20_Sort.k3] at H
     refine C_region ?_
     refine W_move rfl rfl ?_
     refine W_add rfl rfl rfl rfl ?_
     refine W_assign rfl rfl ?_
     refine W_nil ?_
     exact N_againM (l13, wr (i9 + 1)) _ H ⟨F12, u14, rfl, (le5.trans le12), hS12⟩ ⟨rfl, rfl, rfl, trivial⟩
   ·
    rw [if_f hc11] at H
    refine C_exit _ rfl ?_
    exact N_join _ ⟨l6, H, ⟨F5, u7, rfl, le5, hS5⟩⟩ ⟨rfl, trivial⟩
 ·
  rintro E w1 ⟨l2, H, F1, u3, rfl, le1, hS1⟩
  dsimp only [cellarerref20_Sort.k1] at H
  refine C_seq ?_
  refine C_region ?_
  refine W_move rfl rfl ?_
  refine W_assign rfl rfl ?_
  refine W_nil ?_
  refine N_code ?_
  obtain rfl := Option.some.inj H
  refine C_ret rfl rfl ?_
  exact ⟨F1, u3, rfl, hS1⟩

def cellarerkeep_Locs.k1 : Option Bool :=
  some true


def cellarerkeep_Locs.l2 (x0 : List Loc) (x1 : List Loc) (rec5 : Int → Option Bool) : Int → Option Bool
  | i4 =>
    if decide (i4 < (x0.length : Int)) then
      bd (ix x0 i4) fun x7 =>
      bd (ix x1 i4) fun x9 =>
      bd (cellarerkeep_Loc x7 x9) fun r11 =>
      if (!r11) then
        some false
      else
        rec5 (wr (i4 + 1))
    else
      cellarerkeep_Locs.k1

def cellarerkeep_Locs (x0 : List Loc) (x1 : List Loc) : Option Bool :=
  if decide ((x0.length : Int) ≠ (x1.length : Int)) then
    some false
  else
    loop (cellarerkeep_Locs.l2 x0 x1) 0

theorem cellarerkeep_Locs_ok {F : Frz} {w : World} {x0 : List Loc} {x1 : List Loc} {r : Bool} {v0 : Value} {v1 : Value} (hA : Agree F w.heap) (h0 : SlF Loc.t F v0 x0) (h1 : SlF Loc.t F v1 x1) (H : cellarerkeep_Locs x0 x1 = some r) : Ret Try.prog 28 #[v0, v1] w fun v w' => ∃ (F' : Frz), v = .bool r ∧ St [] w F F' [] w' := by
 refine Ret_of (args := [v0, v1]) Go.Proofs.Try.func28 rfl rfl ?_
 change C _ _ _ _ [(0, v0), (1, v1)] _
 have hS := St.entry hA
 dsimp only [cellarerkeep_Locs] at H
 refine C_seq ?_
 refine C_region ?_
 refine W_assign rfl rfl ?_
 refine W_nil ?_
 refine N_code ?_
 refine C_seq ?_
 refine C_seq ?_
 refine C_region ?_
 refine W_move rfl rfl ?_
 refine W_lenv rfl Go.Proofs.Try.underlying49 rfl h0.ln ?_
 refine W_move rfl rfl ?_
 refine W_lenv rfl Go.Proofs.Try.underlying49 rfl h1.ln ?_
 refine W_neq rfl rfl rfl ?_
 refine W_nil ?_
 refine N_code ?_
 refine C_cond rfl (fun hc1 => ?_) (fun hc1 => ?_)
 ·
  rw [if_t hc1] at H
  refine C_seq ?_
  refine C_region ?_
  refine W_assign rfl rfl ?_
  refine W_nil ?_
  refine N_code ?_
  obtain rfl := Option.some.inj H
  refine C_ret rfl rfl ?_
  exact ⟨F, rfl, hS⟩
 ·
  rw [if_f hc1] at H
  refine C_skip ?_
  refine N_code ?_
  refine C_seq_join (fun E wq => cellarerkeep_Locs.k1 = some r ∧ ∃ (F2 : Frz), E = [] ∧ F.le F2 ∧ St [] w F F2 [] wq) ?_ ?_
  ·
   refine C_seq ?_
   refine C_region ?_
   refine W_assign rfl rfl ?_
   refine W_nil ?_
   refine N_code ?_
   refine C_block ?_
   refine C_loopM (fun (s : Int) E wq => ∃ (F3 : Frz), E = [(0, v0), (1, v1), (5, .int .i64 s)] ∧ F.le F3 ∧ St [] w F F3 [] wq) H ?_ ?_
   ·
    exact ⟨_, ⟨F, rfl, (Frz.le.refl _), hS⟩, ⟨rfl, rfl, rfl, trivial⟩⟩
   ·
    rintro rec5 i4 E w3 hI H
    try dsimp only at hI
    obtain ⟨F3, rfl, le3, hS3⟩ := hI
    dsimp only [cellarerkeep_Locs.l2] at H
    refine C_seq ?_
    refine C_seq ?_
    refine C_region ?_
    refine W_move rfl rfl ?_
    refine W_move rfl rfl ?_
    refine W_lenv rfl Go.Proofs.Try.underlying49 rfl h0.ln ?_
    refine W_lss rfl rfl rfl ?_
    refine W_nil ?_
    refine N_code ?_
    refine C_cond rfl (fun hc6 => ?_) (fun hc6 => ?_)
    ·
     rw [if_t hc6] at H
     refine C_skip ?_
     refine N_code ?_
     refine C_seq ?_
     refine C_block ?_
     refine C_seq ?_
     obtain ⟨x7, hx7, H⟩ := bd_some H
     obtain ⟨x9, hx9, H⟩ := bd_some H
     obtain ⟨r11, hr11, H⟩ := bd_some H
     obtain ⟨hp12, hy12⟩ := ix_some hx7
     obtain ⟨cs12, hr12, he12⟩ := (h0.mono le3).at_ hy12
     obtain rfl := hr12
     replace he12 : Elf _ _ 4 _ _ := he12
     obtain ⟨hp13, hy13⟩ := ix_some hx9
     obtain ⟨cs13, hr13, he13⟩ := (h1.mono le3).at_ hy13
     obtain rfl := hr13
     replace he13 : Elf _ _ 4 _ _ := he13
     apply C_draw 9 [[], [], [0, 1], [2], [], [], [4, 5], [6], [3, 7]] [.val (v0), .val (.int .i64 i4), .val (elp v0 (i4.toNat * 4)), .val (.agg (Loc.cells x7).toArray), .val (v1), .val (.int .i64 i4), .val (elp v1 (i4.toNat * 4)), .val (.agg (Loc.cells x9).toArray), .val (.bool r11)] Ty.mixed rfl rfl (by kernel_rfl) (by kernel_rfl) rfl
     ·
      refine ⟨?_, ?_, ?_, ?_, ?_, ?_, ?_, ?_, ?_, trivial⟩
      ·
       intro w14 vq14 hB14 hH14
       have hS14 := hS3.below hB14
       refine W_move rfl rfl ?_
       refine W_nil ?_
       exact N_step rfl rfl (Below.refl _ _)
      ·
       intro w15 vq15 hB15 hH15
       have hS15 := hS3.below hB15
       refine W_move rfl rfl ?_
       refine W_nil ?_
       exact N_step rfl rfl (Below.refl _ _)
      ·
       intro w16 vq16 hB16 hH16
       have hS16 := hS3.below hB16
       refine W_ix rfl Go.Proofs.Try.underlying49 Ty.cells37 Ty.info37 rfl rfl (he12.el hS16.agree) hp12 rfl ?_
       refine W_nil ?_
       exact N_step rfl rfl (Below.refl _ _)
      ·
       intro w17 vq17 hB17 hH17
       have hS17 := hS3.below hB17
       refine W_ldg 0 ((Loc.cells x7)) rfl Ty.agg37 Ty.size37 rfl (he12.el hS17.agree) (by omega) (fun q u h => sub_at (post := []) rfl h) ?_
       refine W_nil ?_
       exact N_step rfl rfl (Below.refl _ _)
      ·
       intro w18 vq18 hB18 hH18
       have hS18 := hS3.below hB18
       refine W_move rfl rfl ?_
       refine W_nil ?_
       exact N_step rfl rfl (Below.refl _ _)
      ·
       intro w19 vq19 hB19 hH19
       have hS19 := hS3.below hB19
       refine W_move rfl rfl ?_
       refine W_nil ?_
       exact N_step rfl rfl (Below.refl _ _)
      ·
       intro w20 vq20 hB20 hH20
       have hS20 := hS3.below hB20
       refine W_ix rfl Go.Proofs.Try.underlying49 Ty.cells37 Ty.info37 rfl rfl (he13.el hS20.agree) hp13 rfl ?_
       refine W_nil ?_
       exact N_step rfl rfl (Below.refl _ _)
      ·
       intro w21 vq21 hB21 hH21
       have hS21 := hS3.below hB21
       refine W_ldg 0 ((Loc.cells x9)) rfl Ty.agg37 Ty.size37 rfl (he13.el hS21.agree) (by omega) (fun q u h => sub_at (post := []) rfl h) ?_
       refine W_nil ?_
       exact N_step rfl rfl (Below.refl _ _)
      ·
       intro w22 vq22 hB22 hH22
       have hS22 := hS3.below hB22
       refine W_call rfl Ty.named24 rfl (cellarerkeep_Loc_ok hS22.agree hr11) ?_
       rintro v23 w23 ⟨Fr11, rfl, hT23⟩
       have hS23 := hS22.lent hT23
       refine W_nil ?_
       exact N_step rfl rfl hT23.below0
     intro w24 vq24 hB24 hH24
     have hS24 := hS3.below hB24
     refine W_not rfl rfl ?_
     refine W_nil ?_
     refine N_code ?_
     refine C_cond rfl (fun hc25 => ?_) (fun hc25 => ?_)
     ·
      rw [if_t hc25] at H
      refine C_seq ?_
      refine C_region ?_
      refine W_assign rfl rfl ?_
      refine W_nil ?_
      refine N_code ?_
      obtain rfl := Option.some.inj H
      refine C_ret rfl rfl ?_
      exact ⟨F3, rfl, hS24⟩
     ·
      rw [if_f hc25] at H
      refine C_skip ?_
      refine N_block ?_
      refine N_code ?_
      refine C_region ?_
      refine W_move rfl rfl ?_
      refine W_add rfl rfl rfl rfl ?_
      refine W_assign rfl rfl ?_
      refine W_nil ?_
      exact N_againM (wr (i4 + 1)) _ H ⟨F3, rfl, le3, hS24⟩ ⟨rfl, rfl, rfl, trivial⟩
    ·
     rw [if_f hc6] at H
     refine C_exit _ rfl ?_
     exact N_join _ ⟨H, ⟨F3, rfl, le3, hS3⟩⟩ trivial
  ·
   rintro E w2 ⟨H, F2, rfl, le2, hS2⟩
   dsimp only [cellarerkeep_Locs.k1] at H
   refine C_seq ?_
   refine C_region ?_
   refine W_assign rfl rfl ?_
   refine W_nil ?_
   refine N_code ?_
   obtain rfl := Option.some.inj H
   refine C_ret rfl rfl ?_
   exact ⟨F2, rfl, hS2⟩

def cellarerkeep_SpoilLocs.l1 (rec4 : (Int × (List Loc)) → Option (List Loc)) : (Int × (List Loc)) → Option (List Loc)
  | (i2, l3) =>
    if decide (i2 < (l3.length : Int)) then
      bd (ix l3 i2) fun x6 =>
      bd (ix (l3.set i2.toNat (Loc.mk (-9) x6.file x6.off x6.len)) i2) fun x8 =>
      rec4 (wr (i2 + 1), ((l3.set i2.toNat (Loc.mk (-9) x6.file x6.off x6.len)).set i2.toNat (Loc.mk x8.vol x8.file (-9) x8.len)))
    else
      some l3

def cellarerkeep_SpoilLocs (x0 : List Loc) : Option (List Loc) :=
  loop (cellarerkeep_SpoilLocs.l1) (0, x0)

theorem cellarerkeep_SpoilLocs_ok {F : Frz} {w : World} {x0 : List Loc} {r : (List Loc)} {v0 : Value} (hS : St v0.ownBlock.toList w F F [.row Loc.t 37 v0 x0] w) (H : cellarerkeep_SpoilLocs x0 = some r) : Ret Try.prog 36 #[v0] w fun v w' => ∃ (F' : Frz), v = .tuple #[] ∧ St v0.ownBlock.toList w F F' [.row Loc.t 37 v0 (r)] w' := by
 refine Ret_of (args := [v0]) Go.Proofs.Try.func36 rfl rfl ?_
 change C _ _ _ _ [(0, v0)] _
 dsimp only [cellarerkeep_SpoilLocs] at H
 refine C_seq ?_
 refine C_region ?_
 refine W_assign rfl rfl ?_
 refine W_nil ?_
 refine N_code ?_
 refine C_block ?_
 refine C_loopM (fun (s : Int × (List Loc)) E wq => ∃ (F1 : Frz), E = [(0, v0), (2, .int .i64 s.1)] ∧ F.le F1 ∧ St v0.ownBlock.toList w F F1 [.row Loc.t 37 v0 s.2] wq) H ?_ ?_
 ·
  exact ⟨_, ⟨F, rfl, (Frz.le.refl _), hS⟩, ⟨rfl, rfl, trivial⟩⟩
 ·
  rintro rec4 ⟨i2, l3⟩ E w1 hI H
  try dsimp only at hI
  obtain ⟨F1, rfl, le1, hS1⟩ := hI
  dsimp only [cellarerkeep_SpoilLocs.l1] at H
  refine C_seq ?_
  refine C_seq ?_
  refine C_region ?_
  refine W_move rfl rfl ?_
  refine W_move rfl rfl ?_
  refine W_lenv rfl Go.Proofs.Try.underlying49 rfl (hS1.rowLn (k := 0) rfl) ?_
  refine W_lss rfl rfl rfl ?_
  refine W_nil ?_
  refine N_code ?_
  refine C_cond rfl (fun hc5 => ?_) (fun hc5 => ?_)
  ·
   rw [if_t hc5] at H
   refine C_skip ?_
   refine N_code ?_
   refine C_seq ?_
   refine C_block ?_
   obtain ⟨x6, hx6, H⟩ := bd_some H
   obtain ⟨x8, hx8, H⟩ := bd_some H
   refine C_region ?_
   refine W_move rfl rfl ?_
   refine W_move rfl rfl ?_
   refine W_move rfl rfl ?_
   refine W_move rfl rfl ?_
   obtain ⟨hp10, hy10⟩ := ix_some hx6
   obtain ⟨cs10, hr10, he10⟩ := hS1.rowAt (k := 0) rfl hy10
   obtain rfl := hr10
   replace he10 : El _ _ 4 _ _ := he10
   refine W_ix rfl Go.Proofs.Try.underlying49 Ty.cells37 Ty.info37 rfl rfl he10 hp10 rfl ?_
   refine W_fld 0 rfl Ty.field37_0 rfl he10 ?_
   refine W_put (c := [.int .i64 (-9)]) 0 (i2.toNat) 0 x6 (Loc.mk (-9) x6.file x6.off x6.len) rfl rfl hS1 rfl (ix_some hx6).2 (by first | rfl | (show _ = _ * 4 + _; omega)) rfl Ty.size3 (by intro y hy; simp at hy; subst hy; rfl) (by first | decide | exact Nat.le_of_ble_eq_true rfl) (by rintro cs rfl; rfl) ?_
   intro w11 hS11
   obtain ⟨hp13, hy13⟩ := ix_some hx8
   obtain ⟨cs13, hr13, he13⟩ := hS11.rowAt (k := 0) rfl hy13
   obtain rfl := hr13
   replace he13 : El _ _ 4 _ _ := he13
   refine W_ix rfl Go.Proofs.Try.underlying49 Ty.cells37 Ty.info37 rfl rfl he13 hp13 rfl ?_
   refine W_fld 2 rfl Ty.field37_2 rfl he13 ?_
   refine W_put (c := [.int .i64 (-9)]) 0 (i2.toNat) 2 x8 (Loc.mk x8.vol x8.file (-9) x8.len) rfl rfl hS11 rfl (ix_some hx8).2 (by first | rfl | (show _ = _ * 4 + _; omega)) rfl Ty.size3 (by intro y hy; simp at hy; subst hy; rfl) (by first | decide | exact Nat.le_of_ble_eq_true rfl) (by rintro cs rfl; rfl) ?_
   intro w14 hS14
   refine W_nil ?_
   refine N_block ?_
   refine N_code ?_
   refine C_region ?_
   refine W_move rfl rfl ?_
   refine W_add rfl rfl rfl rfl ?_
   refine W_assign rfl rfl ?_
   refine W_nil ?_
   exact N_againM (wr (i2 + 1), ((l3.set i2.toNat (Loc.mk (-9) x6.file x6.off x6.len)).set i2.toNat (Loc.mk x8.vol x8.file (-9) x8.len))) _ H ⟨F1, rfl, le1, hS14⟩ ⟨rfl, rfl, trivial⟩
  ·
   rw [if_f hc5] at H
   refine C_exit _ rfl ?_
   obtain rfl := Option.some.inj H
   refine N_done rfl rfl ?_
   exact ⟨F1, rfl, hS1⟩

def cellarerref20_Order.k1 (l2 : List Read) (l5 : List Int) : Option ((List Read) × (List Int)) :=
  some (l2, l5)


def cellarerref20_Order.k3 (i15 : Int) (rec16 : ((List Read) × (List Int) × Int) → Option ((List Read) × (List Int))) (l19 : List Read) (l22 : List Int) : Option ((List Read) × (List Int)) :=
  rec16 (l19, l22, wr (i15 + 1))


def cellarerref20_Order.k5 (l9 : List Read) (l12 : List Int) (i15 : Int) (rec16 : ((List Read) × (List Int) × Int) → Option ((List Read) × (List Int))) (i41 : Int) (i42 : Int) (i43 : Int) (i44 : Int) (i46 : Int) : Option ((List Read) × (List Int)) :=
  bd (cut (α := Read) l9 0 i46) fun l47 =>
  bd (app (α := Read) [] l47) fun l49 =>
  bd (app (α := Read) l49 [(Read.mk i15 (Loc.mk i41 i42 i43 i44))]) fun l52 =>
  bd (cut (α := Read) l9 i46 (l9.length : Int)) fun l64 =>
  bd (app (α := Read) l52 l64) fun l66 =>
  cellarerref20_Order.k3 i15 rec16 l66 l12


def cellarerref20_Order.l6 (l9 : List Read) (l12 : List Int) (i15 : Int) (rec16 : ((List Read) × (List Int) × Int) → Option ((List Read) × (List Int))) (i41 : Int) (i42 : Int) (i43 : Int) (i44 : Int) (rec70 : Int → Option ((List Read) × (List Int))) : Int → Option ((List Read) × (List Int))
  | i69 =>
    bd (only (decide (0 < i69)) (ix l9 (wr (i69 - 1))) (Read.mk 0 (Loc.mk 0 0 0 0))) fun x71 =>
    bd (only (decide (0 < i69)) (cellarerref18_Ahead (Loc.mk i41 i42 i43 i44) x71.loc) false) fun r73 =>
    if (decide (0 < i69) && r73) then
      rec70 (wr (i69 - 1))
    else
      cellarerref20_Order.k5 l9 l12 i15 rec16 i41 i42 i43 i44 i69


def cellarerref20_Order.k4 (l9 : List Read) (l12 : List Int) (i15 : Int) (rec16 : ((List Read) × (List Int) × Int) → Option ((List Read) × (List Int))) (i41 : Int) (i42 : Int) (i43 : Int) (i44 : Int) : Option ((List Read) × (List Int)) :=
  loop (cellarerref20_Order.l6 l9 l12 i15 rec16 i41 i42 i43 i44) (l9.length : Int)


def cellarerref20_Order.k8 (i106 : Int) (rec111 : (Int × Int × Int × Int × Int) → Option ((List Read) × (List Int))) (i117 : Int) (i118 : Int) (i119 : Int) (i120 : Int) : Option ((List Read) × (List Int)) :=
  rec111 (wr (i106 + 1), i117, i118, i119, i120)


def cellarerref20_Order.l7 (x0 : List Want) (l9 : List Read) (l12 : List Int) (i15 : Int) (rec16 : ((List Read) × (List Int) × Int) → Option ((List Read) × (List Int))) (rec111 : (Int × Int × Int × Int × Int) → Option ((List Read) × (List Int))) : (Int × Int × Int × Int × Int) → Option ((List Read) × (List Int))
  | (i106, i107, i108, i109, i110) =>
    bd (ix x0 i15) fun x112 =>
    if decide (i106 < (x112.locs.length : Int)) then
      bd (ix x0 i15) fun x121 =>
      bd (ix x121.locs i106) fun x123 =>
      bd (cellarerref18_Ahead x123 (Loc.mk i107 i108 i109 i110)) fun r125 =>
      if r125 then
        bd (ix x0 i15) fun x140 =>
        bd (ix x140.locs i106) fun x142 =>
        cellarerref20_Order.k8 i106 rec111 x142.vol x142.file x142.off x142.len
      else
        cellarerref20_Order.k8 i106 rec111 i107 i108 i109 i110
    else
      cellarerref20_Order.k4 l9 l12 i15 rec16 i107 i108 i109 i110


def cellarerref20_Order.l2 (x0 : List Want) (rec16 : ((List Read) × (List Int) × Int) → Option ((List Read) × (List Int))) : ((List Read) × (List Int) × Int) → Option ((List Read) × (List Int))
  | (l9, l12, i15) =>
    if decide (i15 < (x0.length : Int)) then
      bd (ix x0 i15) fun x25 =>
      if decide ((x25.locs.length : Int) = 0) then
        bd (app (α := Int) l12 [i15]) fun l30 =>
        cellarerref20_Order.k3 i15 rec16 l9 l30
      else
        bd (ix x0 i15) fun x32 =>
        bd (ix x32.locs 0) fun x34 =>
        loop (cellarerref20_Order.l7 x0 l9 l12 i15 rec16) (1, x34.vol, x34.file, x34.off, x34.len)
    else
      cellarerref20_Order.k1 l9 l12

def cellarerref20_Order (x0 : List Want) : Option ((List Read) × (List Int)) :=
  loop (cellarerref20_Order.l2 x0) ([], [], 0)

theorem cellarerref20_Order_ok {F : Frz} {w : World} {x0 : List Want} {r : (List Read) × (List Int)} {v0 : Value} (hA : Agree F w.heap) (h0 : SlF Want.t F v0 x0) (H : cellarerref20_Order x0 = some r) : Ret Try.prog 37 #[v0] w fun v w' => ∃ (F' : Frz) (q0 : Value) (q1 : Value), v = .tuple #[q0, q1] ∧ St [] w F F' [.row Read.t 39 q0 (r.1), .row tI 3 q1 (r.2)] w' := by
 refine Ret_of (args := [v0]) Go.Proofs.Try.func37 rfl rfl ?_
 change C _ _ _ _ [(0, v0)] _
 have hS := St.entry hA
 dsimp only [cellarerref20_Order] at H
 refine C_seq ?_
 refine C_region ?_
 refine W_assign rfl rfl ?_
 refine W_assign rfl rfl ?_
 refine W_nil ?_
 refine N_code ?_
 refine C_seq ?_
 refine C_region ?_
 refine W_assign rfl rfl ?_
 refine W_nil ?_
 refine N_code ?_
 refine C_seq ?_
 refine C_region ?_
 refine W_assign rfl rfl ?_
 refine W_nil ?_
 refine N_code ?_
 refine C_seq_join (fun E wq => ∃ l2 : List Read, ∃ l5 : List Int, cellarerref20_Order.k1 l2 l5 = some r ∧ ∃ (F1 : Frz) (u3 : Value) (u6 : Value), E = [(4, u3), (5, u6)] ∧ F.le F1 ∧ St [] w F F1 [.row Read.t 39 u3 l2, .row tI 3 u6 l5] wq) ?_ ?_
 ·
  refine C_seq ?_
  refine C_region ?_
  refine W_assign rfl rfl ?_
  refine W_nil ?_
  refine N_code ?_
  refine C_block ?_
  refine C_loopM (fun (s : (List Read) × (List Int) × Int) E wq => ∃ (F8 : Frz) (u10 : Value) (u13 : Value), E = [(0, v0), (4, u10), (5, u13), (6, .int .i64 s.2.2)] ∧ F.le F8 ∧ St [] w F F8 [.row Read.t 39 u10 s.1, .row tI 3 u13 s.2.1] wq) H ?_ ?_
  ·
   have hS148 := hS.nilRow Read.t 39
   have hS150 := hS148.nilRow tI 3
   exact ⟨_, ⟨F, (.slice none 0 0), (.slice none 0 0), rfl, (Frz.le.refl _), hS150.pick [1, 0] (by decide)⟩, ⟨rfl, rfl, rfl, rfl, trivial⟩⟩
  ·
   rintro rec16 ⟨l9, l12, i15⟩ E w8 hI H
   try dsimp only at hI
   obtain ⟨F8, u10, u13, rfl, le8, hS8⟩ := hI
   dsimp only [cellarerref20_Order.l2] at H
   refine C_seq ?_
   refine C_seq ?_
   refine C_region ?_
   refine W_move rfl rfl ?_
   refine W_move rfl rfl ?_
   refine W_lenv rfl Go.Proofs.Try.underlying47 rfl h0.ln ?_
   refine W_lss rfl rfl rfl ?_
   refine W_nil ?_
   refine N_code ?_
   refine C_cond rfl (fun hc17 => ?_) (fun hc17 => ?_)
   ·
    rw [if_t hc17] at H
    refine C_skip ?_
    refine N_code ?_
    refine C_seq_join (fun E wq => ∃ l19 : List Read, ∃ l22 : List Int, cellarerref20_Order.k3 i15 rec16 l19 l22 = some r ∧ ∃ (F18 : Frz) (u20 : Value) (u23 : Value), E = [(0, v0), (4, u20), (5, u23), (6, .int .i64 i15)] ∧ F8.le F18 ∧ St [] w F F18 [.row Read.t 39 u20 l19, .row tI 3 u23 l22] wq) ?_ ?_
    ·
     refine C_block ?_
     refine C_seq ?_
     refine C_seq ?_
     obtain ⟨x25, hx25, H⟩ := bd_some H
     refine C_region ?_
     refine W_move rfl rfl ?_
     refine W_move rfl rfl ?_
     obtain ⟨hp27, hy27⟩ := ix_some hx25
     obtain ⟨cs27, hr27, he27⟩ := (h0.mono le8).at_ hy27
     obtain ⟨ue26_0, rfl, hle26_0, hue26_0⟩ := hr27
     replace he27 : Elf _ _ 33 _ _ := he27
     refine W_ix rfl Go.Proofs.Try.underlying47 Ty.cells52 Ty.info52 rfl rfl (he27.el hS8.agree) hp27 rfl ?_
     refine W_fld 32 rfl Ty.field52_1 rfl (he27.el hS8.agree) ?_
     refine W_ld1 32 rfl Ty.cell49 rfl (he27.el hS8.agree) (by omega) rfl ?_
     refine W_lenv rfl Go.Proofs.Try.underlying49 rfl hue26_0.ln ?_
     refine W_eql rfl rfl rfl ?_
     refine W_nil ?_
     refine N_code ?_
     refine C_cond rfl (fun hc28 => ?_) (fun hc28 => ?_)
     ·
      rw [if_t hc28] at H
      refine C_seq ?_
      obtain ⟨l30, hl30, H⟩ := bd_some H
      refine C_region ?_
      refine W_move rfl rfl ?_
      refine W_move rfl rfl ?_
      refine W_bs (t := tI) [[.int .i64 i15]] [i15] rfl Go.Proofs.Try.underlying22 Ty.cells3 rfl rfl Ty.zero3 rfl rfl ⟨rfl, trivial⟩ rfl rfl hS8 ?_
      intro u29 w29 hS29
      refine W_appM 2 rfl Go.Proofs.Try.underlying22 Ty.row3 rfl rfl rfl rfl rfl hS29 rfl (hS29.rowSrc (j := 0) rfl) hl30 ?_
      intro v31 w31 hS31
      refine W_assign rfl rfl ?_
      refine W_nil ?_
      refine N_code ?_
      refine C_exit _ rfl ?_
      exact N_join _ ⟨l9, l30, H, ⟨F8, u10, v31, rfl, (Frz.le.refl _), hS31.pick [1, 2] (by decide)⟩⟩ ⟨rfl, rfl, rfl, rfl, trivial⟩
     ·
      rw [if_f hc28] at H
      refine C_skip ?_
      refine N_code ?_
      refine C_seq ?_
      obtain ⟨x32, hx32, H⟩ := bd_some H
      obtain ⟨x34, hx34, H⟩ := bd_some H
      refine C_region ?_
      refine W_move rfl rfl ?_
      refine W_move rfl rfl ?_
      obtain ⟨hp37, hy37⟩ := ix_some hx32
      obtain ⟨cs37, hr37, he37⟩ := (h0.mono le8).at_ hy37
      obtain ⟨ue33_0, rfl, hle33_0, hue33_0⟩ := hr37
      replace he37 : Elf _ _ 33 _ _ := he37
      refine W_ix rfl Go.Proofs.Try.underlying47 Ty.cells52 Ty.info52 rfl rfl (he37.el hS8.agree) hp37 rfl ?_
      refine W_fld 32 rfl Ty.field52_1 rfl (he37.el hS8.agree) ?_
      refine W_ld1 32 rfl Ty.cell49 rfl (he37.el hS8.agree) (by omega) rfl ?_
      obtain ⟨hp38, hy38⟩ := ix_some hx34
      obtain ⟨cs38, hr38, he38⟩ := hue33_0.at_ hy38
      obtain rfl := hr38
      replace he38 : Elf _ _ 4 _ _ := he38
      refine W_ix rfl Go.Proofs.Try.underlying49 Ty.cells37 Ty.info37 rfl rfl (he38.el hS8.agree) hp38 rfl ?_
      refine W_ldg 0 ((Loc.cells x34)) rfl Ty.agg37 Ty.size37 rfl (he38.el hS8.agree) (by omega) (fun q u h => sub_at (post := []) rfl h) ?_
      refine W_alc (cs := [.int .i64 0, .int .i64 0, .int .i64 0, .int .i64 0]) rfl Ty.zero37 rfl hS8 ?_
      intro g36 w36 hS36
      refine W_bst (c := [.int .i64 x34.vol, .int .i64 x34.file, .int .i64 x34.off, .int .i64 x34.len]) 0 ([.int .i64 x34.vol, .int .i64 x34.file, .int .i64 x34.off, .int .i64 x34.len]) rfl rfl hS36 rfl rfl Ty.size37 (fun y hy => Loc.t.one (F := F8) (x := x34) rfl y hy) (Nat.le_of_ble_eq_true rfl) rfl ?_
      intro w39 hS39
      refine W_nil ?_
      refine N_code ?_
      refine C_seq_join (fun E wq => ∃ i41 : Int, ∃ i42 : Int, ∃ i43 : Int, ∃ i44 : Int, cellarerref20_Order.k4 l9 l12 i15 rec16 i41 i42 i43 i44 = some r ∧ ∃ (F40 : Frz), E = [(0, v0), (4, u10), (5, u13), (6, .int .i64 i15), (7, pl g36 0)] ∧ F8.le F40 ∧ St [] w F F40 [.box g36 37 [.int .i64 i41, .int .i64 i42, .int .i64 i43, .int .i64 i44], .row Read.t 39 u10 l9, .row tI 3 u13 l12] wq) ?_ ?_
      ·
       refine C_seq ?_
       refine C_region ?_
       refine W_assign rfl rfl ?_
       refine W_nil ?_
       refine N_code ?_
       refine C_block ?_
       refine C_loopM (fun (s : Int × Int × Int × Int × Int) E wq => ∃ (F105 : Frz), E = [(0, v0), (4, u10), (5, u13), (6, .int .i64 i15), (7, pl g36 0), (8, .int .i64 s.1)] ∧ F8.le F105 ∧ St [] w F F105 [.box g36 37 [.int .i64 s.2.1, .int .i64 s.2.2.1, .int .i64 s.2.2.2.1, .int .i64 s.2.2.2.2], .row Read.t 39 u10 l9, .row tI 3 u13 l12] wq) H ?_ ?_
       ·
        exact ⟨_, ⟨F8, rfl, (Frz.le.refl _), hS39⟩, ⟨rfl, rfl, rfl, rfl, rfl, rfl, trivial⟩⟩
       ·
        rintro rec111 ⟨i106, i107, i108, i109, i110⟩ E w105 hI H
        try dsimp only at hI
        obtain ⟨F105, rfl, le105, hS105⟩ := hI
        dsimp only [cellarerref20_Order.l7] at H
        refine C_seq ?_
        refine C_seq ?_
        obtain ⟨x112, hx112, H⟩ := bd_some H
        refine C_region ?_
        refine W_move rfl rfl ?_
        refine W_move rfl rfl ?_
        refine W_move rfl rfl ?_
        obtain ⟨hp114, hy114⟩ := ix_some hx112
        obtain ⟨cs114, hr114, he114⟩ := (h0.mono (le8.trans le105)).at_ hy114
        obtain ⟨ue113_0, rfl, hle113_0, hue113_0⟩ := hr114
        replace he114 : Elf _ _ 33 _ _ := he114
        refine W_ix rfl Go.Proofs.Try.underlying47 Ty.cells52 Ty.info52 rfl rfl (he114.el hS105.agree) hp114 rfl ?_
        refine W_fld 32 rfl Ty.field52_1 rfl (he114.el hS105.agree) ?_
        refine W_ld1 32 rfl Ty.cell49 rfl (he114.el hS105.agree) (by omega) rfl ?_
        refine W_lenv rfl Go.Proofs.Try.underlying49 rfl hue113_0.ln ?_
        refine W_lss rfl rfl rfl ?_
        refine W_nil ?_
        refine N_code ?_
        refine C_cond rfl (fun hc115 => ?_) (fun hc115 => ?_)
        ·
         rw [if_t hc115] at H
         refine C_skip ?_
         refine N_code ?_
         refine C_seq_join (fun E wq => ∃ i117 : Int, ∃ i118 : Int, ∃ i119 : Int, ∃ i120 : Int, cellarerref20_Order.k8 i106 rec111 i117 i118 i119 i120 = some r ∧ ∃ (F116 : Frz), E = [(0, v0), (4, u10), (5, u13), (6, .int .i64 i15), (7, pl g36 0), (8, .int .i64 i106)] ∧ F105.le F116 ∧ St [] w F F116 [.box g36 37 [.int .i64 i117, .int .i64 i118, .int .i64 i119, .int .i64 i120], .row Read.t 39 u10 l9, .row tI 3 u13 l12] wq) ?_ ?_
         ·
          refine C_block ?_
          refine C_seq ?_
          obtain ⟨x121, hx121, H⟩ := bd_some H
          obtain ⟨x123, hx123, H⟩ := bd_some H
          obtain ⟨r125, hr125, H⟩ := bd_some H
          obtain ⟨hp126, hy126⟩ := ix_some hx121
          obtain ⟨cs126, hr126, he126⟩ := (h0.mono (le8.trans le105)).at_ hy126
          obtain ⟨ue122_0, rfl, hle122_0, hue122_0⟩ := hr126
          replace he126 : Elf _ _ 33 _ _ := he126
          obtain ⟨hp127, hy127⟩ := ix_some hx123
          obtain ⟨cs127, hr127, he127⟩ := hue122_0.at_ hy127
          obtain rfl := hr127
          replace he127 : Elf _ _ 4 _ _ := he127
          apply C_draw 9 [[], [], [0, 1], [2], [3], [], [4, 5], [6], []] [.val (v0), .val (.int .i64 i15), .val (elp v0 (i15.toNat * 33)), .val (elp v0 ((i15.toNat * 33) + 32)), .val (ue122_0), .val (.int .i64 i106), .val (elp ue122_0 (i106.toNat * 4)), .val (.agg (Loc.cells x123).toArray), .val (.agg (Loc.cells (Loc.mk i107 i108 i109 i110)).toArray)] Ty.mixed rfl rfl (by kernel_rfl) (by kernel_rfl) rfl
          ·
           refine ⟨?_, ?_, ?_, ?_, ?_, ?_, ?_, ?_, ?_, trivial⟩
           ·
            intro w128 vq128 hB128 hH128
            have hS128 := hS105.below hB128
            refine W_move rfl rfl ?_
            refine W_nil ?_
            exact N_step rfl rfl (Below.refl _ _)
           ·
            intro w129 vq129 hB129 hH129
            have hS129 := hS105.below hB129
            refine W_move rfl rfl ?_
            refine W_nil ?_
            exact N_step rfl rfl (Below.refl _ _)
           ·
            intro w130 vq130 hB130 hH130
            have hS130 := hS105.below hB130
            refine W_ix rfl Go.Proofs.Try.underlying47 Ty.cells52 Ty.info52 rfl rfl (he126.el hS130.agree) hp126 rfl ?_
            refine W_nil ?_
            exact N_step rfl rfl (Below.refl _ _)
           ·
            intro w131 vq131 hB131 hH131
            have hS131 := hS105.below hB131
            refine W_fld 32 rfl Ty.field52_1 rfl (he126.el hS131.agree) ?_
            refine W_nil ?_
            exact N_step rfl rfl (Below.refl _ _)
           ·
            intro w132 vq132 hB132 hH132
            have hS132 := hS105.below hB132
            refine W_ld1 32 rfl Ty.cell49 rfl (he126.el hS132.agree) (by omega) rfl ?_
            refine W_nil ?_
            exact N_step rfl rfl (Below.refl _ _)
           ·
            intro w133 vq133 hB133 hH133
            have hS133 := hS105.below hB133
            refine W_move rfl rfl ?_
            refine W_nil ?_
            exact N_step rfl rfl (Below.refl _ _)
           ·
            intro w134 vq134 hB134 hH134
            have hS134 := hS105.below hB134
            refine W_ix rfl Go.Proofs.Try.underlying49 Ty.cells37 Ty.info37 rfl rfl (he127.el hS134.agree) hp127 rfl ?_
            refine W_nil ?_
            exact N_step rfl rfl (Below.refl _ _)
           ·
            intro w135 vq135 hB135 hH135
            have hS135 := hS105.below hB135
            refine W_ldg 0 ((Loc.cells x123)) rfl Ty.agg37 Ty.size37 rfl (he127.el hS135.agree) (by omega) (fun q u h => sub_at (post := []) rfl h) ?_
            refine W_nil ?_
            exact N_step rfl rfl (Below.refl _ _)
           ·
            intro w136 vq136 hB136 hH136
            have hS136 := hS105.below hB136
            refine W_bldg 0 ((Loc.cells (Loc.mk i107 i108 i109 i110))) rfl Ty.agg37 Ty.size37 rfl hS136 rfl (fun q u h => sub_at (post := []) rfl h) ?_
            refine W_nil ?_
            exact N_step rfl rfl (Below.refl _ _)
          intro w137 vq137 hB137 hH137
          have hS137 := hS105.below hB137
          refine W_call rfl Ty.named34 rfl (cellarerref18_Ahead_ok hS137.agree hr125) ?_
          rintro v138 w138 ⟨Fr125, rfl, hT138⟩
          have hS138 := hS137.lent hT138
          refine W_nil ?_
          refine N_code ?_
          refine C_cond rfl (fun hc139 => ?_) (fun hc139 => ?_)
          ·
           rw [if_t hc139] at H
           obtain ⟨x140, hx140, H⟩ := bd_some H
           obtain ⟨x142, hx142, H⟩ := bd_some H
           refine C_region ?_
           refine W_move rfl rfl ?_
           refine W_move rfl rfl ?_
           obtain ⟨hp144, hy144⟩ := ix_some hx140
           obtain ⟨cs144, hr144, he144⟩ := (h0.mono (le8.trans le105)).at_ hy144
           obtain ⟨ue141_0, rfl, hle141_0, hue141_0⟩ := hr144
           replace he144 : Elf _ _ 33 _ _ := he144
           refine W_ix rfl Go.Proofs.Try.underlying47 Ty.cells52 Ty.info52 rfl rfl (he144.el hS138.agree) hp144 rfl ?_
           refine W_fld 32 rfl Ty.field52_1 rfl (he144.el hS138.agree) ?_
           refine W_ld1 32 rfl Ty.cell49 rfl (he144.el hS138.agree) (by omega) rfl ?_
           refine W_move rfl rfl ?_
           obtain ⟨hp145, hy145⟩ := ix_some hx142
           obtain ⟨cs145, hr145, he145⟩ := hue141_0.at_ hy145
           obtain rfl := hr145
           replace he145 : Elf _ _ 4 _ _ := he145
           refine W_ix rfl Go.Proofs.Try.underlying49 Ty.cells37 Ty.info37 rfl rfl (he145.el hS138.agree) hp145 rfl ?_
           refine W_ldg 0 ((Loc.cells x142)) rfl Ty.agg37 Ty.size37 rfl (he145.el hS138.agree) (by omega) (fun q u h => sub_at (post := []) rfl h) ?_
           refine W_bst (c := [.int .i64 x142.vol, .int .i64 x142.file, .int .i64 x142.off, .int .i64 x142.len]) 0 ([.int .i64 x142.vol, .int .i64 x142.file, .int .i64 x142.off, .int .i64 x142.len]) rfl rfl hS138 rfl rfl Ty.size37 (fun y hy => Loc.t.one (F := F105) (x := x142) rfl y hy) (Nat.le_of_ble_eq_true rfl) rfl ?_
           intro w146 hS146
           refine W_nil ?_
           refine N_block ?_
           exact N_join _ ⟨x142.vol, x142.file, x142.off, x142.len, H, ⟨F105, rfl, (Frz.le.refl _), hS146⟩⟩ ⟨rfl, rfl, rfl, rfl, rfl, rfl, trivial⟩
          ·
           rw [if_f hc139] at H
           refine C_skip ?_
           refine N_block ?_
           exact N_join _ ⟨i107, i108, i109, i110, H, ⟨F105, rfl, (Frz.le.refl _), hS138⟩⟩ ⟨rfl, rfl, rfl, rfl, rfl, rfl, trivial⟩
         ·
          rintro E w116 ⟨i117, i118, i119, i120, H, F116, rfl, le116, hS116⟩
          dsimp only [cellarerref20_Order.k8] at H
          refine C_region ?_
          refine W_move rfl rfl ?_
          refine W_add rfl rfl rfl rfl ?_
          refine W_assign rfl rfl ?_
          refine W_nil ?_
          exact N_againM (wr (i106 + 1), i117, i118, i119, i120) _ H ⟨F116, rfl, (le105.trans le116), hS116⟩ ⟨rfl, rfl, rfl, rfl, rfl, rfl, trivial⟩
        ·
         rw [if_f hc115] at H
         refine C_exit _ rfl ?_
         exact N_join _ ⟨i107, i108, i109, i110, H, ⟨F105, rfl, le105, hS105⟩⟩ ⟨rfl, rfl, rfl, rfl, rfl, trivial⟩
      ·
       rintro E w40 ⟨i41, i42, i43, i44, H, F40, rfl, le40, hS40⟩
       dsimp only [cellarerref20_Order.k4] at H
       refine C_seq ?_
       refine C_region ?_
       refine W_move rfl rfl ?_
       refine W_lenv rfl Go.Proofs.Try.underlying23 rfl (hS40.rowLn (k := 1) rfl) ?_
       refine W_assign rfl rfl ?_
       refine W_nil ?_
       refine N_code ?_
       refine C_seq_join (fun E wq => ∃ i46 : Int, cellarerref20_Order.k5 l9 l12 i15 rec16 i41 i42 i43 i44 i46 = some r ∧ ∃ (F45 : Frz), E = [(0, v0), (4, u10), (5, u13), (6, .int .i64 i15), (7, pl g36 0), (9, .int .i64 i46)] ∧ F40.le F45 ∧ St [] w F F45 [.box g36 37 [.int .i64 i41, .int .i64 i42, .int .i64 i43, .int .i64 i44], .row Read.t 39 u10 l9, .row tI 3 u13 l12] wq) ?_ ?_
       ·
        refine C_block ?_
        refine C_loopM (fun (s : Int) E wq => ∃ (F68 : Frz), E = [(0, v0), (4, u10), (5, u13), (6, .int .i64 i15), (7, pl g36 0), (9, .int .i64 s)] ∧ F40.le F68 ∧ St [] w F F68 [.box g36 37 [.int .i64 i41, .int .i64 i42, .int .i64 i43, .int .i64 i44], .row Read.t 39 u10 l9, .row tI 3 u13 l12] wq) H ?_ ?_
        ·
         exact ⟨_, ⟨F40, rfl, (Frz.le.refl _), hS40⟩, ⟨rfl, rfl, rfl, rfl, rfl, rfl, trivial⟩⟩
        ·
         rintro rec70 i69 E w68 hI H
         try dsimp only at hI
         obtain ⟨F68, rfl, le68, hS68⟩ := hI
         dsimp only [cellarerref20_Order.l6] at H
         refine C_seq ?_
         refine C_seq ?_
         obtain ⟨x71, hx71, H⟩ := bd_some H
         obtain ⟨r73, hr73, H⟩ := bd_some H
         refine C_join (fun E wq => E = [(0, v0), (4, u10), (5, u13), (6, .int .i64 i15), (7, pl g36 0), (9, .int .i64 i69), (76, .bool (decide (0 < i69) && r73))] ∧ ∃ F74 : Frz, F68.le F74 ∧ St [] w F F74 [.box g36 37 [.int .i64 i41, .int .i64 i42, .int .i64 i43, .int .i64 i44], .row Read.t 39 u10 l9, .row tI 3 u13 l12] wq) ?_ ?_
         ·
          rcases Bool.eq_false_or_eq_true (decide (0 < i69)) with hb75 | hb75
          ·
           have hy76 := hx71
           rw [only_t hb75] at hy76
           obtain ⟨hp77, hy77⟩ := ix_some hy76
           obtain ⟨cs77, hr77, he77⟩ := hS68.rowAt (k := 1) rfl hy77
           obtain rfl := hr77
           replace he77 : El _ _ 5 _ _ := he77
           apply C_draw 11 [[], [0], [1], [2], [2], [2], [5, 2], [4, 6, 2], [7, 2], [8, 2], [3, 9, 2]] [.val (.int .i64 i69), .val (.bool (decide (0 < i69))), .val (.bool true), .val (.agg (Loc.cells (Loc.mk i41 i42 i43 i44)).toArray), .val (u10), .val (.int .i64 i69), .val (.int .i64 (wr (i69 - 1))), .val (elp u10 ((wr (i69 - 1)).toNat * 5)), .val (elp u10 (((wr (i69 - 1)).toNat * 5) + 1)), .val (.agg (Loc.cells x71.loc).toArray), .val (.bool r73)] Ty.mixed rfl rfl (by kernel_rfl) (by kernel_rfl) rfl
           ·
            refine ⟨?_, ?_, ?_, ?_, ?_, ?_, ?_, ?_, ?_, ?_, ?_, trivial⟩
            ·
             intro w78 vq78 hB78 hH78
             have hS78 := hS68.below hB78
             refine W_move rfl rfl ?_
             refine W_nil ?_
             exact N_step rfl rfl (Below.refl _ _)
            ·
             intro w79 vq79 hB79 hH79
             have hS79 := hS68.below hB79
             refine W_gtr rfl rfl rfl ?_
             refine W_nil ?_
             exact N_step rfl rfl (Below.refl _ _)
            ·
             intro w80 vq80 hB80 hH80
             have hS80 := hS68.below hB80
             refine W_move rfl rfl ?_
             refine W_nil ?_
             exact N_step rfl (congrArg Value.bool hb75) (Below.refl _ _)
            ·
             intro w81 vq81 hB81 hH81
             have hS81 := hS68.below hB81
             refine W_guard_yes rfl ?_
             refine W_bldg 0 ((Loc.cells (Loc.mk i41 i42 i43 i44))) rfl Ty.agg37 Ty.size37 rfl hS81 rfl (fun q u h => sub_at (post := []) rfl h) ?_
             refine W_nil ?_
             exact N_step rfl rfl (Below.refl _ _)
            ·
             intro w82 vq82 hB82 hH82
             have hS82 := hS68.below hB82
             refine W_guard_yes rfl ?_
             refine W_move rfl rfl ?_
             refine W_nil ?_
             exact N_step rfl rfl (Below.refl _ _)
            ·
             intro w83 vq83 hB83 hH83
             have hS83 := hS68.below hB83
             refine W_guard_yes rfl ?_
             refine W_move rfl rfl ?_
             refine W_nil ?_
             exact N_step rfl rfl (Below.refl _ _)
            ·
             intro w84 vq84 hB84 hH84
             have hS84 := hS68.below hB84
             refine W_guard_yes rfl ?_
             refine W_subi rfl rfl rfl rfl ?_
             refine W_nil ?_
             exact N_step rfl rfl (Below.refl _ _)
            ·
             intro w85 vq85 hB85 hH85
             have hS85 := hS68.below hB85
             refine W_guard_yes rfl ?_
             refine W_ix rfl Go.Proofs.Try.underlying23 Ty.cells39 Ty.info39 rfl rfl (he77.below hB85) hp77 rfl ?_
             refine W_nil ?_
             exact N_step rfl rfl (Below.refl _ _)
            ·
             intro w86 vq86 hB86 hH86
             have hS86 := hS68.below hB86
             refine W_guard_yes rfl ?_
             refine W_fld 1 rfl Ty.field39_1 rfl (he77.below hB86) ?_
             refine W_nil ?_
             exact N_step rfl rfl (Below.refl _ _)
            ·
             intro w87 vq87 hB87 hH87
             have hS87 := hS68.below hB87
             refine W_guard_yes rfl ?_
             refine W_ldg 1 ((Loc.cells x71.loc)) rfl Ty.agg37 Ty.size37 rfl (he77.below hB87) (by omega) (fun q u h => sub_at (post := []) rfl h) ?_
             refine W_nil ?_
             exact N_step rfl rfl (Below.refl _ _)
            ·
             intro w88 vq88 hB88 hH88
             have hS88 := hS68.below hB88
             refine W_guard_yes rfl ?_
             have hy89 := hr73
             rw [only_t hb75] at hy89
             refine W_call rfl Ty.named34 rfl (cellarerref18_Ahead_ok hS88.agree hy89) ?_
             rintro v90 w90 ⟨Fr73, rfl, hT90⟩
             have hS90 := hS88.lent hT90
             refine W_nil ?_
             exact N_step rfl rfl hT90.below0
           intro w91 vq91 hB91 hH91
           have hS91 := hS68.below hB91
           refine W_pick_t rfl rfl rfl ?_
           refine W_nil ?_
           exact N_join _ ⟨rfl, F68, (Frz.le.refl _), hS91⟩ ⟨rfl, rfl, rfl, rfl, rfl, rfl, (look_bool rfl (by first | rfl | (rw [hb75]; first | done | rfl) | simp [hb75])), trivial⟩
          ·
           apply C_draw 11 [[], [0], [1], [2], [2], [2], [5, 2], [4, 6, 2], [7, 2], [8, 2], [3, 9, 2]] [.val (.int .i64 i69), .val (.bool (decide (0 < i69))), .val (.bool false), .val undef, .val undef, .val undef, .val undef, .val undef, .val undef, .val undef, .val undef] Ty.mixed rfl rfl (by kernel_rfl) (by kernel_rfl) rfl
           ·
            refine ⟨?_, ?_, ?_, ?_, ?_, ?_, ?_, ?_, ?_, ?_, ?_, trivial⟩
            ·
             intro w92 vq92 hB92 hH92
             have hS92 := hS68.below hB92
             refine W_move rfl rfl ?_
             refine W_nil ?_
             exact N_step rfl rfl (Below.refl _ _)
            ·
             intro w93 vq93 hB93 hH93
             have hS93 := hS68.below hB93
             refine W_gtr rfl rfl rfl ?_
             refine W_nil ?_
             exact N_step rfl rfl (Below.refl _ _)
            ·
             intro w94 vq94 hB94 hH94
             have hS94 := hS68.below hB94
             refine W_move rfl rfl ?_
             refine W_nil ?_
             exact N_step rfl (congrArg Value.bool hb75) (Below.refl _ _)
            ·
             intro w95 vq95 hB95 hH95
             have hS95 := hS68.below hB95
             refine W_guard_no rfl rfl rfl rfl rfl ?_
             refine W_nil ?_
             exact N_step rfl rfl (Below.refl _ _)
            ·
             intro w96 vq96 hB96 hH96
             have hS96 := hS68.below hB96
             refine W_guard_no rfl rfl rfl rfl rfl ?_
             refine W_nil ?_
             exact N_step rfl rfl (Below.refl _ _)
            ·
             intro w97 vq97 hB97 hH97
             have hS97 := hS68.below hB97
             refine W_guard_no rfl rfl rfl rfl rfl ?_
             refine W_nil ?_
             exact N_step rfl rfl (Below.refl _ _)
            ·
             intro w98 vq98 hB98 hH98
             have hS98 := hS68.below hB98
             refine W_guard_no rfl rfl rfl rfl rfl ?_
             refine W_nil ?_
             exact N_step rfl rfl (Below.refl _ _)
            ·
             intro w99 vq99 hB99 hH99
             have hS99 := hS68.below hB99
             refine W_guard_no rfl rfl rfl rfl rfl ?_
             refine W_nil ?_
             exact N_step rfl rfl (Below.refl _ _)
            ·
             intro w100 vq100 hB100 hH100
             have hS100 := hS68.below hB100
             refine W_guard_no rfl rfl rfl rfl rfl ?_
             refine W_nil ?_
             exact N_step rfl rfl (Below.refl _ _)
            ·
             intro w101 vq101 hB101 hH101
             have hS101 := hS68.below hB101
             refine W_guard_no rfl rfl rfl rfl rfl ?_
             refine W_nil ?_
             exact N_step rfl rfl (Below.refl _ _)
            ·
             intro w102 vq102 hB102 hH102
             have hS102 := hS68.below hB102
             refine W_guard_no rfl rfl rfl rfl rfl ?_
             refine W_nil ?_
             exact N_step rfl rfl (Below.refl _ _)
           intro w103 vq103 hB103 hH103
           have hS103 := hS68.below hB103
           refine W_pick_f rfl rfl rfl ?_
           refine W_nil ?_
           exact N_join _ ⟨rfl, F68, (Frz.le.refl _), hS103⟩ ⟨rfl, rfl, rfl, rfl, rfl, rfl, (look_bool rfl (by first | rfl | (rw [hb75]; first | done | rfl) | simp [hb75])), trivial⟩
         rintro E w74 ⟨rfl, F74, le74, hS74⟩
         refine N_code ?_
         refine C_cond rfl (fun hc104 => ?_) (fun hc104 => ?_)
         ·
          rw [if_t hc104] at H
          refine C_skip ?_
          refine N_code ?_
          refine C_block ?_
          refine C_region ?_
          refine W_move rfl rfl ?_
          refine W_subi rfl rfl rfl rfl ?_
          refine W_assign rfl rfl ?_
          refine W_nil ?_
          refine N_block ?_
          exact N_againM (wr (i69 - 1)) _ H ⟨F74, rfl, (le68.trans le74), hS74⟩ ⟨rfl, rfl, rfl, rfl, rfl, rfl, trivial⟩
         ·
          rw [if_f hc104] at H
          refine C_exit _ rfl ?_
          exact N_join _ ⟨i69, H, ⟨F74, rfl, (le68.trans le74), hS74⟩⟩ ⟨rfl, rfl, rfl, rfl, rfl, rfl, trivial⟩
       ·
        rintro E w45 ⟨i46, H, F45, rfl, le45, hS45⟩
        dsimp only [cellarerref20_Order.k5] at H
        refine C_seq ?_
        refine C_region ?_
        refine W_assign rfl rfl ?_
        refine W_nil ?_
        refine N_code ?_
        refine C_seq ?_
        obtain ⟨l47, hl47, H⟩ := bd_some H
        obtain ⟨l49, hl49, H⟩ := bd_some H
        obtain ⟨l52, hl52, H⟩ := bd_some H
        apply C_draw 9 [[], [], [], [1, 2], [0, 3], [], [], [5, 6], [7]] [.val (.slice none 0 0), .val (u10), .val (.int .i64 i46), .pred (fun v wr => Src Read.t F45 wr v l47) stable_src, .pred (fun v wr => Ob.ok F45 wr (.row Read.t 39 v l49) ∧ ∀ g, v.ownBlock = some g → w45.heap.size ≤ g) stable_row, .val (.int .i64 i15), .val (.agg (Loc.cells (Loc.mk i41 i42 i43 i44)).toArray), .val (.agg (Read.cells (Read.mk i15 (Loc.mk i41 i42 i43 i44))).toArray), .pred (fun v wr => Src Read.t F45 wr v [(Read.mk i15 (Loc.mk i41 i42 i43 i44))]) stable_src] Ty.mixed rfl rfl (by kernel_rfl) (by kernel_rfl) rfl
        ·
         refine ⟨?_, ?_, ?_, ?_, ?_, ?_, ?_, ?_, ?_, trivial⟩
         ·
          intro w54 vq54 hB54 hH54
          have hS54 := hS45.below hB54
          refine W_move rfl rfl ?_
          refine W_nil ?_
          exact N_step rfl rfl (Below.refl _ _)
         ·
          intro w55 vq55 hB55 hH55
          have hS55 := hS45.below hB55
          refine W_move rfl rfl ?_
          refine W_nil ?_
          exact N_step rfl rfl (Below.refl _ _)
         ·
          intro w56 vq56 hB56 hH56
          have hS56 := hS45.below hB56
          refine W_move rfl rfl ?_
          refine W_nil ?_
          exact N_step rfl rfl (Below.refl _ _)
         ·
          intro w57 vq57 hB57 hH57
          have hS57 := hS45.below hB57
          refine W_cutS 0 i46 rfl Go.Proofs.Try.underlying23 Ty.cells39 Ty.info39 rfl rfl ⟨_, rfl⟩ (hS57.rowSrc (j := 1) rfl) hl47 ?_
          intro q48 hv48
          refine W_nil ?_
          exact N_step rfl hv48 (Below.refl _ _)
         ·
          intro w58 vq58 hB58 hH58
          obtain ⟨_, hp58_3, _⟩ := hH58
          have hS58 := hS45.below hB58
          refine W_app0 (t := Read.t) rfl Go.Proofs.Try.underlying23 Ty.row39 rfl rfl rfl rfl rfl hS58.agree hp58_3 hl49 ?_
          intro v50 w50 hB50 hO50 hg50
          refine W_nil ?_
          exact N_step rfl ⟨hO50, fun g hg => Nat.le_trans hB58.size (hg50 g hg)⟩ hB50
         ·
          intro w59 vq59 hB59 hH59
          have hS59 := hS45.below hB59
          refine W_move rfl rfl ?_
          refine W_nil ?_
          exact N_step rfl rfl (Below.refl _ _)
         ·
          intro w60 vq60 hB60 hH60
          have hS60 := hS45.below hB60
          refine W_bldg 0 ((Loc.cells (Loc.mk i41 i42 i43 i44))) rfl Ty.agg37 Ty.size37 rfl hS60 rfl (fun q u h => sub_at (post := []) rfl h) ?_
          refine W_nil ?_
          exact N_step rfl rfl (Below.refl _ _)
         ·
          intro w61 vq61 hB61 hH61
          have hS61 := hS45.below hB61
          refine W_build (v := .agg (Read.cells (Read.mk i15 (Loc.mk i41 i42 i43 i44))).toArray) rfl rfl (fun _ => by kernel_rfl) ?_
          refine W_nil ?_
          exact N_step rfl rfl (Below.refl _ _)
         ·
          intro w62 vq62 hB62 hH62
          have hS62 := hS45.below hB62
          refine W_bs0 (t := Read.t) [(Read.cells (Read.mk i15 (Loc.mk i41 i42 i43 i44)))] [(Read.mk i15 (Loc.mk i41 i42 i43 i44))] rfl Go.Proofs.Try.underlying23 Ty.cells39 rfl rfl Ty.zero39 rfl rfl ⟨rfl, trivial⟩ rfl rfl hS62.agree ?_
          intro u51 w51 hB51 hs51
          refine W_nil ?_
          exact N_step rfl hs51 hB51
        intro w63 vq63 hB63 hH63
        obtain ⟨_, _, _, hp63_3, hp63_4, _, _, _, hp63_8, _⟩ := hH63
        have hS63 := hS45.below hB63
        have hS63 := hS45.fresh hB63 hp63_4.1 hp63_4.2
        refine W_appM 0 rfl Go.Proofs.Try.underlying23 Ty.row39 rfl rfl rfl rfl rfl hS63 rfl hp63_8 hl52 ?_
        intro v53 w53 hS53
        refine W_assign rfl rfl ?_
        refine W_nil ?_
        refine N_code ?_
        obtain ⟨l64, hl64, H⟩ := bd_some H
        obtain ⟨l66, hl66, H⟩ := bd_some H
        refine C_region ?_
        refine W_move rfl rfl ?_
        refine W_move rfl rfl ?_
        refine W_move rfl rfl ?_
        refine W_cutR 2 i46 (l9.length : Int) rfl Go.Proofs.Try.underlying23 Ty.cells39 Ty.info39 rfl ⟨_, rfl⟩ rfl hS53 rfl hl64 ?_
        intro q65 hv65 hw65
        refine W_appM 0 rfl Go.Proofs.Try.underlying23 Ty.row39 rfl rfl rfl rfl rfl hS53 rfl hv65 hl66 ?_
        intro v67 w67 hS67
        refine W_assign rfl rfl ?_
        refine W_nil ?_
        refine N_block ?_
        exact N_join _ ⟨l66, l12, H, ⟨F45, v67, u13, rfl, (le40.trans le45), hS67.pick [0, 3] (by decide)⟩⟩ ⟨rfl, rfl, rfl, rfl, trivial⟩
    ·
     rintro E w18 ⟨l19, l22, H, F18, u20, u23, rfl, le18, hS18⟩
     dsimp only [cellarerref20_Order.k3] at H
     refine C_region ?_
     refine W_move rfl rfl ?_
     refine W_add rfl rfl rfl rfl ?_
     refine W_assign rfl rfl ?_
     refine W_nil ?_
     exact N_againM (l19, l22, wr (i15 + 1)) _ H ⟨F18, u20, u23, rfl, (le8.trans le18), hS18⟩ ⟨rfl, rfl, rfl, rfl, trivial⟩
   ·
    rw [if_f hc17] at H
    refine C_exit _ rfl ?_
    exact N_join _ ⟨l9, l12, H, ⟨F8, u10, u13, rfl, le8, hS8⟩⟩ ⟨rfl, rfl, trivial⟩
 ·
  rintro E w1 ⟨l2, l5, H, F1, u3, u6, rfl, le1, hS1⟩
  dsimp only [cellarerref20_Order.k1] at H
  refine C_seq ?_
  refine C_region ?_
  refine W_move rfl rfl ?_
  refine W_move rfl rfl ?_
  refine W_assign rfl rfl ?_
  refine W_assign rfl rfl ?_
  refine W_nil ?_
  refine N_code ?_
  obtain rfl := Option.some.inj H
  refine C_ret rfl rfl ?_
  exact ⟨F1, u3, u6, rfl, hS1⟩

def cellarerkeep_Reads.k1 : Option Bool :=
  some true


def cellarerkeep_Reads.l2 (x0 : List Read) (x1 : List Read) (rec5 : Int → Option Bool) : Int → Option Bool
  | i4 =>
    if decide (i4 < (x0.length : Int)) then
      bd (ix x0 i4) fun x7 =>
      bd (ix x1 i4) fun x9 =>
      bd (only (!decide (x7.want ≠ x9.want)) (ix x0 i4) (Read.mk 0 (Loc.mk 0 0 0 0))) fun x11 =>
      bd (only (!decide (x7.want ≠ x9.want)) (ix x1 i4) (Read.mk 0 (Loc.mk 0 0 0 0))) fun x13 =>
      bd (only (!decide (x7.want ≠ x9.want)) (cellarerkeep_Loc x11.loc x13.loc) false) fun r15 =>
      if (decide (x7.want ≠ x9.want) || (!r15)) then
        some false
      else
        rec5 (wr (i4 + 1))
    else
      cellarerkeep_Reads.k1

def cellarerkeep_Reads (x0 : List Read) (x1 : List Read) : Option Bool :=
  if decide ((x0.length : Int) ≠ (x1.length : Int)) then
    some false
  else
    loop (cellarerkeep_Reads.l2 x0 x1) 0

theorem cellarerkeep_Reads_ok {F : Frz} {w : World} {x0 : List Read} {x1 : List Read} {r : Bool} {v0 : Value} {v1 : Value} (hA : Agree F w.heap) (h0 : SlF Read.t F v0 x0) (h1 : SlF Read.t F v1 x1) (H : cellarerkeep_Reads x0 x1 = some r) : Ret Try.prog 21 #[v0, v1] w fun v w' => ∃ (F' : Frz), v = .bool r ∧ St [] w F F' [] w' := by
 refine Ret_of (args := [v0, v1]) Go.Proofs.Try.func21 rfl rfl ?_
 change C _ _ _ _ [(0, v0), (1, v1)] _
 have hS := St.entry hA
 dsimp only [cellarerkeep_Reads] at H
 refine C_seq ?_
 refine C_region ?_
 refine W_assign rfl rfl ?_
 refine W_nil ?_
 refine N_code ?_
 refine C_seq ?_
 refine C_seq ?_
 refine C_region ?_
 refine W_move rfl rfl ?_
 refine W_lenv rfl Go.Proofs.Try.underlying23 rfl h0.ln ?_
 refine W_move rfl rfl ?_
 refine W_lenv rfl Go.Proofs.Try.underlying23 rfl h1.ln ?_
 refine W_neq rfl rfl rfl ?_
 refine W_nil ?_
 refine N_code ?_
 refine C_cond rfl (fun hc1 => ?_) (fun hc1 => ?_)
 ·
  rw [if_t hc1] at H
  refine C_seq ?_
  refine C_region ?_
  refine W_assign rfl rfl ?_
  refine W_nil ?_
  refine N_code ?_
  obtain rfl := Option.some.inj H
  refine C_ret rfl rfl ?_
  exact ⟨F, rfl, hS⟩
 ·
  rw [if_f hc1] at H
  refine C_skip ?_
  refine N_code ?_
  refine C_seq_join (fun E wq => cellarerkeep_Reads.k1 = some r ∧ ∃ (F2 : Frz), E = [] ∧ F.le F2 ∧ St [] w F F2 [] wq) ?_ ?_
  ·
   refine C_seq ?_
   refine C_region ?_
   refine W_assign rfl rfl ?_
   refine W_nil ?_
   refine N_code ?_
   refine C_block ?_
   refine C_loopM (fun (s : Int) E wq => ∃ (F3 : Frz), E = [(0, v0), (1, v1), (5, .int .i64 s)] ∧ F.le F3 ∧ St [] w F F3 [] wq) H ?_ ?_
   ·
    exact ⟨_, ⟨F, rfl, (Frz.le.refl _), hS⟩, ⟨rfl, rfl, rfl, trivial⟩⟩
   ·
    rintro rec5 i4 E w3 hI H
    try dsimp only at hI
    obtain ⟨F3, rfl, le3, hS3⟩ := hI
    dsimp only [cellarerkeep_Reads.l2] at H
    refine C_seq ?_
    refine C_seq ?_
    refine C_region ?_
    refine W_move rfl rfl ?_
    refine W_move rfl rfl ?_
    refine W_lenv rfl Go.Proofs.Try.underlying23 rfl h0.ln ?_
    refine W_lss rfl rfl rfl ?_
    refine W_nil ?_
    refine N_code ?_
    refine C_cond rfl (fun hc6 => ?_) (fun hc6 => ?_)
    ·
     rw [if_t hc6] at H
     refine C_skip ?_
     refine N_code ?_
     refine C_seq ?_
     refine C_block ?_
     refine C_seq ?_
     obtain ⟨x7, hx7, H⟩ := bd_some H
     obtain ⟨x9, hx9, H⟩ := bd_some H
     obtain ⟨x11, hx11, H⟩ := bd_some H
     obtain ⟨x13, hx13, H⟩ := bd_some H
     obtain ⟨r15, hr15, H⟩ := bd_some H
     refine C_join (fun E wq => E = [(0, v0), (1, v1), (5, .int .i64 i4), (41, .bool (decide (x7.want ≠ x9.want) || (!r15)))] ∧ ∃ F16 : Frz, F3.le F16 ∧ St [] w F F16 [] wq) ?_ ?_
     ·
      rcases Bool.eq_false_or_eq_true (decide (x7.want ≠ x9.want)) with hb17 | hb17
      ·
       obtain ⟨hp18, hy18⟩ := ix_some hx7
       obtain ⟨cs18, hr18, he18⟩ := (h0.mono le3).at_ hy18
       obtain rfl := hr18
       replace he18 : Elf _ _ 5 _ _ := he18
       obtain ⟨hp19, hy19⟩ := ix_some hx9
       obtain ⟨cs19, hr19, he19⟩ := (h1.mono le3).at_ hy19
       obtain rfl := hr19
       replace he19 : Elf _ _ 5 _ _ := he19
       apply C_draw 24 [[], [], [0, 1], [2], [3], [], [], [5, 6], [7], [8], [4, 9], [10], [11], [11], [12, 13, 11], [14, 11], [15, 11], [11], [11], [17, 18, 11], [19, 11], [20, 11], [16, 21, 11], [22, 11]] [.val (v0), .val (.int .i64 i4), .val (elp v0 (i4.toNat * 5)), .val (elp v0 ((i4.toNat * 5) + 0)), .val (.int .i64 x7.want), .val (v1), .val (.int .i64 i4), .val (elp v1 (i4.toNat * 5)), .val (elp v1 ((i4.toNat * 5) + 0)), .val (.int .i64 x9.want), .val (.bool (decide (x7.want ≠ x9.want))), .val (.bool true), .val undef, .val undef, .val undef, .val undef, .val undef, .val undef, .val undef, .val undef, .val undef, .val undef, .val undef, .val undef] Ty.mixed rfl rfl (by kernel_rfl) (by kernel_rfl) rfl
       ·
        refine ⟨?_, ?_, ?_, ?_, ?_, ?_, ?_, ?_, ?_, ?_, ?_, ?_, ?_, ?_, ?_, ?_, ?_, ?_, ?_, ?_, ?_, ?_, ?_, ?_, trivial⟩
        ·
         intro w20 vq20 hB20 hH20
         have hS20 := hS3.below hB20
         refine W_move rfl rfl ?_
         refine W_nil ?_
         exact N_step rfl rfl (Below.refl _ _)
        ·
         intro w21 vq21 hB21 hH21
         have hS21 := hS3.below hB21
         refine W_move rfl rfl ?_
         refine W_nil ?_
         exact N_step rfl rfl (Below.refl _ _)
        ·
         intro w22 vq22 hB22 hH22
         have hS22 := hS3.below hB22
         refine W_ix rfl Go.Proofs.Try.underlying23 Ty.cells39 Ty.info39 rfl rfl (he18.el hS22.agree) hp18 rfl ?_
         refine W_nil ?_
         exact N_step rfl rfl (Below.refl _ _)
        ·
         intro w23 vq23 hB23 hH23
         have hS23 := hS3.below hB23
         refine W_fld 0 rfl Ty.field39_0 rfl (he18.el hS23.agree) ?_
         refine W_nil ?_
         exact N_step rfl rfl (Below.refl _ _)
        ·
         intro w24 vq24 hB24 hH24
         have hS24 := hS3.below hB24
         refine W_ld1 0 rfl Ty.cell3 rfl (he18.el hS24.agree) (by omega) rfl ?_
         refine W_nil ?_
         exact N_step rfl rfl (Below.refl _ _)
        ·
         intro w25 vq25 hB25 hH25
         have hS25 := hS3.below hB25
         refine W_move rfl rfl ?_
         refine W_nil ?_
         exact N_step rfl rfl (Below.refl _ _)
        ·
         intro w26 vq26 hB26 hH26
         have hS26 := hS3.below hB26
         refine W_move rfl rfl ?_
         refine W_nil ?_
         exact N_step rfl rfl (Below.refl _ _)
        ·
         intro w27 vq27 hB27 hH27
         have hS27 := hS3.below hB27
         refine W_ix rfl Go.Proofs.Try.underlying23 Ty.cells39 Ty.info39 rfl rfl (he19.el hS27.agree) hp19 rfl ?_
         refine W_nil ?_
         exact N_step rfl rfl (Below.refl _ _)
        ·
         intro w28 vq28 hB28 hH28
         have hS28 := hS3.below hB28
         refine W_fld 0 rfl Ty.field39_0 rfl (he19.el hS28.agree) ?_
         refine W_nil ?_
         exact N_step rfl rfl (Below.refl _ _)
        ·
         intro w29 vq29 hB29 hH29
         have hS29 := hS3.below hB29
         refine W_ld1 0 rfl Ty.cell3 rfl (he19.el hS29.agree) (by omega) rfl ?_
         refine W_nil ?_
         exact N_step rfl rfl (Below.refl _ _)
        ·
         intro w30 vq30 hB30 hH30
         have hS30 := hS3.below hB30
         refine W_neq rfl rfl rfl ?_
         refine W_nil ?_
         exact N_step rfl rfl (Below.refl _ _)
        ·
         intro w31 vq31 hB31 hH31
         have hS31 := hS3.below hB31
         refine W_move rfl rfl ?_
         refine W_nil ?_
         exact N_step rfl (congrArg Value.bool hb17) (Below.refl _ _)
        ·
         intro w32 vq32 hB32 hH32
         have hS32 := hS3.below hB32
         refine W_guard_no rfl rfl rfl rfl rfl ?_
         refine W_nil ?_
         exact N_step rfl rfl (Below.refl _ _)
        ·
         intro w33 vq33 hB33 hH33
         have hS33 := hS3.below hB33
         refine W_guard_no rfl rfl rfl rfl rfl ?_
         refine W_nil ?_
         exact N_step rfl rfl (Below.refl _ _)
        ·
         intro w34 vq34 hB34 hH34
         have hS34 := hS3.below hB34
         refine W_guard_no rfl rfl rfl rfl rfl ?_
         refine W_nil ?_
         exact N_step rfl rfl (Below.refl _ _)
        ·
         intro w35 vq35 hB35 hH35
         have hS35 := hS3.below hB35
         refine W_guard_no rfl rfl rfl rfl rfl ?_
         refine W_nil ?_
         exact N_step rfl rfl (Below.refl _ _)
        ·
         intro w36 vq36 hB36 hH36
         have hS36 := hS3.below hB36
         refine W_guard_no rfl rfl rfl rfl rfl ?_
         refine W_nil ?_
         exact N_step rfl rfl (Below.refl _ _)
        ·
         intro w37 vq37 hB37 hH37
         have hS37 := hS3.below hB37
         refine W_guard_no rfl rfl rfl rfl rfl ?_
         refine W_nil ?_
         exact N_step rfl rfl (Below.refl _ _)
        ·
         intro w38 vq38 hB38 hH38
         have hS38 := hS3.below hB38
         refine W_guard_no rfl rfl rfl rfl rfl ?_
         refine W_nil ?_
         exact N_step rfl rfl (Below.refl _ _)
        ·
         intro w39 vq39 hB39 hH39
         have hS39 := hS3.below hB39
         refine W_guard_no rfl rfl rfl rfl rfl ?_
         refine W_nil ?_
         exact N_step rfl rfl (Below.refl _ _)
        ·
         intro w40 vq40 hB40 hH40
         have hS40 := hS3.below hB40
         refine W_guard_no rfl rfl rfl rfl rfl ?_
         refine W_nil ?_
         exact N_step rfl rfl (Below.refl _ _)
        ·
         intro w41 vq41 hB41 hH41
         have hS41 := hS3.below hB41
         refine W_guard_no rfl rfl rfl rfl rfl ?_
         refine W_nil ?_
         exact N_step rfl rfl (Below.refl _ _)
        ·
         intro w42 vq42 hB42 hH42
         have hS42 := hS3.below hB42
         refine W_guard_no rfl rfl rfl rfl rfl ?_
         refine W_nil ?_
         exact N_step rfl rfl (Below.refl _ _)
        ·
         intro w43 vq43 hB43 hH43
         have hS43 := hS3.below hB43
         refine W_guard_no rfl rfl rfl rfl rfl ?_
         refine W_nil ?_
         exact N_step rfl rfl (Below.refl _ _)
       intro w44 vq44 hB44 hH44
       have hS44 := hS3.below hB44
       refine W_pick_t rfl rfl rfl ?_
       refine W_nil ?_
       exact N_join _ ⟨rfl, F3, (Frz.le.refl _), hS44⟩ ⟨rfl, rfl, rfl, (look_bool rfl (by first | rfl | (rw [hb17]; first | done | rfl) | simp [hb17])), trivial⟩
      ·
       obtain ⟨hp45, hy45⟩ := ix_some hx7
       obtain ⟨cs45, hr45, he45⟩ := (h0.mono le3).at_ hy45
       obtain rfl := hr45
       replace he45 : Elf _ _ 5 _ _ := he45
       obtain ⟨hp46, hy46⟩ := ix_some hx9
       obtain ⟨cs46, hr46, he46⟩ := (h1.mono le3).at_ hy46
       obtain rfl := hr46
       replace he46 : Elf _ _ 5 _ _ := he46
       have hy47 := hx11
       rw [only_t (by first | rfl | (rw [hb17]; first | done | rfl) | simp [hb17])] at hy47
       obtain ⟨hp48, hy48⟩ := ix_some hy47
       obtain ⟨cs48, hr48, he48⟩ := (h0.mono le3).at_ hy48
       obtain rfl := hr48
       replace he48 : Elf _ _ 5 _ _ := he48
       have hy49 := hx13
       rw [only_t (by first | rfl | (rw [hb17]; first | done | rfl) | simp [hb17])] at hy49
       obtain ⟨hp50, hy50⟩ := ix_some hy49
       obtain ⟨cs50, hr50, he50⟩ := (h1.mono le3).at_ hy50
       obtain rfl := hr50
       replace he50 : Elf _ _ 5 _ _ := he50
       apply C_draw 24 [[], [], [0, 1], [2], [3], [], [], [5, 6], [7], [8], [4, 9], [10], [11], [11], [12, 13, 11], [14, 11], [15, 11], [11], [11], [17, 18, 11], [19, 11], [20, 11], [16, 21, 11], [22, 11]] [.val (v0), .val (.int .i64 i4), .val (elp v0 (i4.toNat * 5)), .val (elp v0 ((i4.toNat * 5) + 0)), .val (.int .i64 x7.want), .val (v1), .val (.int .i64 i4), .val (elp v1 (i4.toNat * 5)), .val (elp v1 ((i4.toNat * 5) + 0)), .val (.int .i64 x9.want), .val (.bool (decide (x7.want ≠ x9.want))), .val (.bool false), .val (v0), .val (.int .i64 i4), .val (elp v0 (i4.toNat * 5)), .val (elp v0 ((i4.toNat * 5) + 1)), .val (.agg (Loc.cells x11.loc).toArray), .val (v1), .val (.int .i64 i4), .val (elp v1 (i4.toNat * 5)), .val (elp v1 ((i4.toNat * 5) + 1)), .val (.agg (Loc.cells x13.loc).toArray), .val (.bool r15), .val (.bool (!r15))] Ty.mixed rfl rfl (by kernel_rfl) (by kernel_rfl) rfl
       ·
        refine ⟨?_, ?_, ?_, ?_, ?_, ?_, ?_, ?_, ?_, ?_, ?_, ?_, ?_, ?_, ?_, ?_, ?_, ?_, ?_, ?_, ?_, ?_, ?_, ?_, trivial⟩
        ·
         intro w51 vq51 hB51 hH51
         have hS51 := hS3.below hB51
         refine W_move rfl rfl ?_
         refine W_nil ?_
         exact N_step rfl rfl (Below.refl _ _)
        ·
         intro w52 vq52 hB52 hH52
         have hS52 := hS3.below hB52
         refine W_move rfl rfl ?_
         refine W_nil ?_
         exact N_step rfl rfl (Below.refl _ _)
        ·
         intro w53 vq53 hB53 hH53
         have hS53 := hS3.below hB53
         refine W_ix rfl Go.Proofs.Try.underlying23 Ty.cells39 Ty.info39 rfl rfl (he45.el hS53.agree) hp45 rfl ?_
         refine W_nil ?_
         exact N_step rfl rfl (Below.refl _ _)
        ·
         intro w54 vq54 hB54 hH54
         have hS54 := hS3.below hB54
         refine W_fld 0 rfl Ty.field39_0 rfl (he45.el hS54.agree) ?_
         refine W_nil ?_
         exact N_step rfl rfl (Below.refl _ _)
        ·
         intro w55 vq55 hB55 hH55
         have hS55 := hS3.below hB55
         refine W_ld1 0 rfl Ty.cell3 rfl (he45.el hS55.agree) (by omega) rfl ?_
         refine W_nil ?_
         exact N_step rfl rfl (Below.refl _ _)
        ·
         intro w56 vq56 hB56 hH56
         have hS56 := hS3.below hB56
         refine W_move rfl rfl ?_
         refine W_nil ?_
         exact N_step rfl rfl (Below.refl _ _)
        ·
         intro w57 vq57 hB57 hH57
         have hS57 := hS3.below hB57
         refine W_move rfl rfl ?_
         refine W_nil ?_
         exact N_step rfl rfl (Below.refl _ _)
        ·
         intro w58 vq58 hB58 hH58
         have hS58 := hS3.below hB58
         refine W_ix rfl Go.Proofs.Try.underlying23 Ty.cells39 Ty.info39 rfl rfl (he46.el hS58.agree) hp46 rfl ?_
         refine W_nil ?_
         exact N_step rfl rfl (Below.refl _ _)
        ·
         intro w59 vq59 hB59 hH59
         have hS59 := hS3.below hB59
         refine W_fld 0 rfl Ty.field39_0 rfl (he46.el hS59.agree) ?_
         refine W_nil ?_
         exact N_step rfl rfl (Below.refl _ _)
        ·
         intro w60 vq60 hB60 hH60
         have hS60 := hS3.below hB60
         refine W_ld1 0 rfl Ty.cell3 rfl (he46.el hS60.agree) (by omega) rfl ?_
         refine W_nil ?_
         exact N_step rfl rfl (Below.refl _ _)
        ·
         intro w61 vq61 hB61 hH61
         have hS61 := hS3.below hB61
         refine W_neq rfl rfl rfl ?_
         refine W_nil ?_
         exact N_step rfl rfl (Below.refl _ _)
        ·
         intro w62 vq62 hB62 hH62
         have hS62 := hS3.below hB62
         refine W_move rfl rfl ?_
         refine W_nil ?_
         exact N_step rfl (congrArg Value.bool hb17) (Below.refl _ _)
        ·
         intro w63 vq63 hB63 hH63
         have hS63 := hS3.below hB63
         refine W_guard_yes rfl ?_
         refine W_move rfl rfl ?_
         refine W_nil ?_
         exact N_step rfl rfl (Below.refl _ _)
        ·
         intro w64 vq64 hB64 hH64
         have hS64 := hS3.below hB64
         refine W_guard_yes rfl ?_
         refine W_move rfl rfl ?_
         refine W_nil ?_
         exact N_step rfl rfl (Below.refl _ _)
        ·
         intro w65 vq65 hB65 hH65
         have hS65 := hS3.below hB65
         refine W_guard_yes rfl ?_
         refine W_ix rfl Go.Proofs.Try.underlying23 Ty.cells39 Ty.info39 rfl rfl (he48.el hS65.agree) hp48 rfl ?_
         refine W_nil ?_
         exact N_step rfl rfl (Below.refl _ _)
        ·
         intro w66 vq66 hB66 hH66
         have hS66 := hS3.below hB66
         refine W_guard_yes rfl ?_
         refine W_fld 1 rfl Ty.field39_1 rfl (he48.el hS66.agree) ?_
         refine W_nil ?_
         exact N_step rfl rfl (Below.refl _ _)
        ·
         intro w67 vq67 hB67 hH67
         have hS67 := hS3.below hB67
         refine W_guard_yes rfl ?_
         refine W_ldg 1 ((Loc.cells x11.loc)) rfl Ty.agg37 Ty.size37 rfl (he48.el hS67.agree) (by omega) (fun q u h => sub_at (post := []) rfl h) ?_
         refine W_nil ?_
         exact N_step rfl rfl (Below.refl _ _)
        ·
         intro w68 vq68 hB68 hH68
         have hS68 := hS3.below hB68
         refine W_guard_yes rfl ?_
         refine W_move rfl rfl ?_
         refine W_nil ?_
         exact N_step rfl rfl (Below.refl _ _)
        ·
         intro w69 vq69 hB69 hH69
         have hS69 := hS3.below hB69
         refine W_guard_yes rfl ?_
         refine W_move rfl rfl ?_
         refine W_nil ?_
         exact N_step rfl rfl (Below.refl _ _)
        ·
         intro w70 vq70 hB70 hH70
         have hS70 := hS3.below hB70
         refine W_guard_yes rfl ?_
         refine W_ix rfl Go.Proofs.Try.underlying23 Ty.cells39 Ty.info39 rfl rfl (he50.el hS70.agree) hp50 rfl ?_
         refine W_nil ?_
         exact N_step rfl rfl (Below.refl _ _)
        ·
         intro w71 vq71 hB71 hH71
         have hS71 := hS3.below hB71
         refine W_guard_yes rfl ?_
         refine W_fld 1 rfl Ty.field39_1 rfl (he50.el hS71.agree) ?_
         refine W_nil ?_
         exact N_step rfl rfl (Below.refl _ _)
        ·
         intro w72 vq72 hB72 hH72
         have hS72 := hS3.below hB72
         refine W_guard_yes rfl ?_
         refine W_ldg 1 ((Loc.cells x13.loc)) rfl Ty.agg37 Ty.size37 rfl (he50.el hS72.agree) (by omega) (fun q u h => sub_at (post := []) rfl h) ?_
         refine W_nil ?_
         exact N_step rfl rfl (Below.refl _ _)
        ·
         intro w73 vq73 hB73 hH73
         have hS73 := hS3.below hB73
         refine W_guard_yes rfl ?_
         have hy74 := hr15
         rw [only_t (by first | rfl | (rw [hb17]; first | done | rfl) | simp [hb17])] at hy74
         refine W_call rfl Ty.named24 rfl (cellarerkeep_Loc_ok hS73.agree hy74) ?_
         rintro v75 w75 ⟨Fr15, rfl, hT75⟩
         have hS75 := hS73.lent hT75
         refine W_nil ?_
         exact N_step rfl rfl hT75.below0
        ·
         intro w76 vq76 hB76 hH76
         have hS76 := hS3.below hB76
         refine W_guard_yes rfl ?_
         refine W_not rfl rfl ?_
         refine W_nil ?_
         exact N_step rfl rfl (Below.refl _ _)
       intro w77 vq77 hB77 hH77
       have hS77 := hS3.below hB77
       refine W_pick_f rfl rfl rfl ?_
       refine W_nil ?_
       exact N_join _ ⟨rfl, F3, (Frz.le.refl _), hS77⟩ ⟨rfl, rfl, rfl, (look_bool rfl (by first | rfl | (rw [hb17]; first | done | rfl) | simp [hb17])), trivial⟩
     rintro E w16 ⟨rfl, F16, le16, hS16⟩
     refine N_code ?_
     refine C_cond rfl (fun hc78 => ?_) (fun hc78 => ?_)
     ·
      rw [if_t hc78] at H
      refine C_seq ?_
      refine C_region ?_
      refine W_assign rfl rfl ?_
      refine W_nil ?_
      refine N_code ?_
      obtain rfl := Option.some.inj H
      refine C_ret rfl rfl ?_
      exact ⟨F16, rfl, hS16⟩
     ·
      rw [if_f hc78] at H
      refine C_skip ?_
      refine N_block ?_
      refine N_code ?_
      refine C_region ?_
      refine W_move rfl rfl ?_
      refine W_add rfl rfl rfl rfl ?_
      refine W_assign rfl rfl ?_
      refine W_nil ?_
      exact N_againM (wr (i4 + 1)) _ H ⟨F16, rfl, (le3.trans le16), hS16⟩ ⟨rfl, rfl, rfl, trivial⟩
    ·
     rw [if_f hc6] at H
     refine C_exit _ rfl ?_
     exact N_join _ ⟨H, ⟨F3, rfl, le3, hS3⟩⟩ trivial
  ·
   rintro E w2 ⟨H, F2, rfl, le2, hS2⟩
   dsimp only [cellarerkeep_Reads.k1] at H
   refine C_seq ?_
   refine C_region ?_
   refine W_assign rfl rfl ?_
   refine W_nil ?_
   refine N_code ?_
   obtain rfl := Option.some.inj H
   refine C_ret rfl rfl ?_
   exact ⟨F2, rfl, hS2⟩

end Go.Wk.Lf
