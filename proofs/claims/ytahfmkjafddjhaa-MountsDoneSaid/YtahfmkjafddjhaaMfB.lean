import Derived.Test.YtahfmkjafddjhaaMfA
namespace Go.Wk.Lf
open Go.Proofs Go.RowKit
set_option linter.unusedVariables false
set_option linter.unusedSimpArgs false

def cellarerref20_Drives.k6 (x1 : List Read) (l18 : List Move) (l21 : List Bool) (l22 : List Int) (l23 : List Int) (rec24 : ((List Move) × (List Bool) × (List Int) × (List Int)) → Option ((List Move) × Int)) (i26 : Int) (i61 : Int) : Option ((List Move) × Int) :=
  bd (ix x1 i26) fun x62 =>
  bd (ix l23 i61) fun x64 =>
  bd (ix l22 i61) fun x66 =>
  bd (ix (l23.set i61.toNat x62.loc.vol) i61) fun x75 =>
  bd (app (α := Move) l18 [(Move.mk 1 i61 x75 (Loc.mk 0 0 0 0))]) fun l78 =>
  rec24 (l78, l21, (l22.set i61.toNat (wr ((l18.length : Int) + 1))), (l23.set i61.toNat x62.loc.vol))


def cellarerref20_Drives.k8 (i83 : Int) (rec84 : (Int × Int) → Option ((List Move) × Int)) (i87 : Int) : Option ((List Move) × Int) :=
  rec84 (i87, wr (i83 + 1))


def cellarerref20_Drives.l7 (x1 : List Read) (l18 : List Move) (l21 : List Bool) (l22 : List Int) (l23 : List Int) (rec24 : ((List Move) × (List Bool) × (List Int) × (List Int)) → Option ((List Move) × Int)) (i26 : Int) (rec84 : (Int × Int) → Option ((List Move) × Int)) : (Int × Int) → Option ((List Move) × Int)
  | (i82, i83) =>
    if decide (i83 < (l23.length : Int)) then
      bd (ix l23 i82) fun x88 =>
      bd (only (decide (0 ≤ x88)) (ix l23 i83) 0) fun x90 =>
      bd (only (decide (0 ≤ x88) && (!decide (x90 < 0))) (ix l22 i83) 0) fun x92 =>
      bd (only (decide (0 ≤ x88) && (!decide (x90 < 0))) (ix l22 i82) 0) fun x94 =>
      if (decide (0 ≤ x88) && (decide (x90 < 0) || decide (x92 < x94))) then
        cellarerref20_Drives.k8 i83 rec84 i83
      else
        cellarerref20_Drives.k8 i83 rec84 i82
    else
      cellarerref20_Drives.k6 x1 l18 l21 l22 l23 rec24 i26 i82


def cellarerref20_Drives.k5 (x1 : List Read) (l18 : List Move) (l21 : List Bool) (l22 : List Int) (l23 : List Int) (rec24 : ((List Move) × (List Bool) × (List Int) × (List Int)) → Option ((List Move) × Int)) (i26 : Int) (i29 : Int) (i30 : Int) : Option ((List Move) × Int) :=
  if decide (0 ≤ i29) then
    bd (ix l21 i30) fun x32 =>
    bd (ix l23 i29) fun x37 =>
    bd (ix x1 i30) fun x39 =>
    bd (app (α := Move) l18 [(Move.mk 2 i29 x37 x39.loc)]) fun l42 =>
    rec24 (l42, (l21.set i30.toNat true), l22, l23)
  else
    loop (cellarerref20_Drives.l7 x1 l18 l21 l22 l23 rec24 i26) (0, 1)


def cellarerref20_Drives.k10 (i183 : Int) (rec184 : (Int × Int × Int) → Option ((List Move) × Int)) (i189 : Int) (i190 : Int) : Option ((List Move) × Int) :=
  rec184 (i189, i190, wr (i183 + 1))


def cellarerref20_Drives.k12 (i194 : Int) (rec195 : (Int × Int × Int) → Option ((List Move) × Int)) (i200 : Int) (i201 : Int) : Option ((List Move) × Int) :=
  rec195 (i200, i201, wr (i194 + 1))


def cellarerref20_Drives.l11 (x1 : List Read) (l21 : List Bool) (l23 : List Int) (i183 : Int) (rec184 : (Int × Int × Int) → Option ((List Move) × Int)) (rec195 : (Int × Int × Int) → Option ((List Move) × Int)) : (Int × Int × Int) → Option ((List Move) × Int)
  | (i192, i193, i194) =>
    if (decide (i194 < (x1.length : Int)) && decide (i192 < 0)) then
      bd (ix l21 i194) fun x202 =>
      bd (only (!x202) (ix l23 i183) 0) fun x204 =>
      bd (only ((!x202) && decide (0 ≤ x204)) (ix x1 i194) (Read.mk 0 (Loc.mk 0 0 0 0))) fun x206 =>
      bd (only ((!x202) && decide (0 ≤ x204)) (ix l23 i183) 0) fun x208 =>
      if (((!x202) && decide (0 ≤ x204)) && decide (x206.loc.vol = x208)) then
        cellarerref20_Drives.k12 i194 rec195 i183 i194
      else
        cellarerref20_Drives.k12 i194 rec195 i192 i193
    else
      cellarerref20_Drives.k10 i183 rec184 i192 i193


def cellarerref20_Drives.l9 (x1 : List Read) (l18 : List Move) (l21 : List Bool) (l22 : List Int) (l23 : List Int) (rec24 : ((List Move) × (List Bool) × (List Int) × (List Int)) → Option ((List Move) × Int)) (i26 : Int) (rec184 : (Int × Int × Int) → Option ((List Move) × Int)) : (Int × Int × Int) → Option ((List Move) × Int)
  | (i181, i182, i183) =>
    if (decide (i183 < (l23.length : Int)) && decide (i181 < 0)) then
      loop (cellarerref20_Drives.l11 x1 l21 l23 i183 rec184) (i181, i182, 0)
    else
      cellarerref20_Drives.k5 x1 l18 l21 l22 l23 rec24 i26 i181 i182


def cellarerref20_Drives.k4 (x1 : List Read) (l18 : List Move) (l21 : List Bool) (l22 : List Int) (l23 : List Int) (rec24 : ((List Move) × (List Bool) × (List Int) × (List Int)) → Option ((List Move) × Int)) (i26 : Int) : Option ((List Move) × Int) :=
  if decide (i26 < 0) then
    some (l18, 0)
  else
    loop (cellarerref20_Drives.l9 x1 l18 l21 l22 l23 rec24 i26) ((-1), (-1), 0)


def cellarerref20_Drives.k14 (i302 : Int) (rec303 : (Int × Int) → Option ((List Move) × Int)) (i308 : Int) : Option ((List Move) × Int) :=
  rec303 (i308, wr (i302 + 1))


def cellarerref20_Drives.l13 (x1 : List Read) (l18 : List Move) (l21 : List Bool) (l22 : List Int) (l23 : List Int) (rec24 : ((List Move) × (List Bool) × (List Int) × (List Int)) → Option ((List Move) × Int)) (rec303 : (Int × Int) → Option ((List Move) × Int)) : (Int × Int) → Option ((List Move) × Int)
  | (i301, i302) =>
    if (decide (i302 < (x1.length : Int)) && decide (i301 < 0)) then
      bd (ix l21 i302) fun x309 =>
      if (!x309) then
        cellarerref20_Drives.k14 i302 rec303 i302
      else
        cellarerref20_Drives.k14 i302 rec303 i301
    else
      cellarerref20_Drives.k4 x1 l18 l21 l22 l23 rec24 i301


def cellarerref20_Drives.l3 (x1 : List Read) (rec24 : ((List Move) × (List Bool) × (List Int) × (List Int)) → Option ((List Move) × Int)) : ((List Move) × (List Bool) × (List Int) × (List Int)) → Option ((List Move) × Int)
  | (l18, l21, l22, l23) =>
    loop (cellarerref20_Drives.l13 x1 l18 l21 l22 l23 rec24) ((-1), 0)


def cellarerref20_Drives.k2 (x0 : List Int) (x1 : List Read) : Option ((List Move) × Int) :=
  bd (cellarerkeep_TwinInts x0) fun r11 =>
  bd (rep (r11.length : Int) 0) fun l13 =>
  bd (rep (x1.length : Int) false) fun l15 =>
  loop (cellarerref20_Drives.l3 x1) ([], l15, l13, r11)


def cellarerref20_Drives.l15 (x0 : List Int) (x1 : List Read) (rec317 : Int → Option ((List Move) × Int)) : Int → Option ((List Move) × Int)
  | i316 =>
    if decide (i316 < (x1.length : Int)) then
      bd (ix x1 i316) fun x319 =>
      if decide (x319.loc.vol < 0) then
        some ([], 1)
      else
        rec317 (wr (i316 + 1))
    else
      cellarerref20_Drives.k2 x0 x1


def cellarerref20_Drives.k1 (x0 : List Int) (x1 : List Read) : Option ((List Move) × Int) :=
  if decide (32768 < (x1.length : Int)) then
    some ([], 2)
  else
    loop (cellarerref20_Drives.l15 x0 x1) 0


def cellarerref20_Drives.k17 (i326 : Int) (rec327 : Int → Option ((List Move) × Int)) : Option ((List Move) × Int) :=
  rec327 (wr (i326 + 1))


def cellarerref20_Drives.l18 (x0 : List Int) (i326 : Int) (rec327 : Int → Option ((List Move) × Int)) (rec332 : Int → Option ((List Move) × Int)) : Int → Option ((List Move) × Int)
  | i331 =>
    if decide (i331 < i326) then
      bd (ix x0 i326) fun x334 =>
      bd (only (decide (0 ≤ x334)) (ix x0 i326) 0) fun x336 =>
      bd (only (decide (0 ≤ x334)) (ix x0 i331) 0) fun x338 =>
      if (decide (0 ≤ x334) && decide (x336 = x338)) then
        some ([], 1)
      else
        rec332 (wr (i331 + 1))
    else
      cellarerref20_Drives.k17 i326 rec327


def cellarerref20_Drives.l16 (x0 : List Int) (x1 : List Read) (rec327 : Int → Option ((List Move) × Int)) : Int → Option ((List Move) × Int)
  | i326 =>
    if decide (i326 < (x0.length : Int)) then
      loop (cellarerref20_Drives.l18 x0 i326 rec327) 0
    else
      cellarerref20_Drives.k1 x0 x1

def cellarerref20_Drives (x0 : List Int) (x1 : List Read) : Option ((List Move) × Int) :=
  if (decide ((x0.length : Int) < 1) || decide (4 < (x0.length : Int))) then
    some ([], 2)
  else
    loop (cellarerref20_Drives.l16 x0 x1) 0

theorem cellarerref20_Drives_ok {F : Frz} {w : World} {x0 : List Int} {x1 : List Read} {r : (List Move) × Int} {v0 : Value} {v1 : Value} (hA : Agree F w.heap) (h0 : SlF tI F v0 x0) (h1 : SlF Read.t F v1 x1) (H : cellarerref20_Drives x0 x1 = some r) : Ret Try.prog 17 #[v0, v1] w fun v w' => ∃ (F' : Frz) (q0 : Value), v = .tuple #[q0, .int .i64 r.2] ∧ St [] w F F' [.row Move.t 42 q0 (r.1)] w' := by
 refine Ret_of (args := [v0, v1]) Go.Proofs.Try.func17 rfl rfl ?_
 change C _ _ _ _ [(0, v0), (1, v1)] _
 have hS := St.entry hA
 dsimp only [cellarerref20_Drives] at H
 refine C_seq ?_
 refine C_region ?_
 refine W_assign rfl rfl ?_
 refine W_assign rfl rfl ?_
 refine W_nil ?_
 refine N_code ?_
 refine C_seq ?_
 refine C_seq ?_
 refine C_join (fun E wq => E = [(0, v0), (1, v1), (28, .bool (decide ((x0.length : Int) < 1) || decide (4 < (x0.length : Int))))] ∧ ∃ F1 : Frz, F.le F1 ∧ St [] w F F1 [] wq) ?_ ?_
 ·
  rcases Bool.eq_false_or_eq_true (decide ((x0.length : Int) < 1)) with hb2 | hb2
  ·
   refine C_region ?_
   refine W_move rfl rfl ?_
   refine W_lenv rfl Go.Proofs.Try.underlying22 rfl h0.ln ?_
   refine W_lss rfl rfl rfl ?_
   refine W_move rfl rfl ?_
   refine W_known (t := 24) true rfl hb2 ?_
   refine W_guard_no rfl rfl rfl rfl rfl ?_
   refine W_guard_no rfl rfl rfl rfl rfl ?_
   refine W_guard_no rfl rfl rfl rfl rfl ?_
   refine W_pick_t rfl rfl rfl ?_
   refine W_nil ?_
   exact N_join _ ⟨rfl, F, (Frz.le.refl _), hS⟩ ⟨rfl, rfl, (look_bool rfl (by first | rfl | (rw [hb2]; first | done | rfl) | simp [hb2])), trivial⟩
  ·
   refine C_region ?_
   refine W_move rfl rfl ?_
   refine W_lenv rfl Go.Proofs.Try.underlying22 rfl h0.ln ?_
   refine W_lss rfl rfl rfl ?_
   refine W_move rfl rfl ?_
   refine W_known (t := 24) false rfl hb2 ?_
   refine W_guard_yes rfl ?_
   refine W_move rfl rfl ?_
   refine W_guard_yes rfl ?_
   refine W_lenv rfl Go.Proofs.Try.underlying22 rfl h0.ln ?_
   refine W_guard_yes rfl ?_
   refine W_gtr rfl rfl rfl ?_
   refine W_pick_f rfl rfl rfl ?_
   refine W_nil ?_
   exact N_join _ ⟨rfl, F, (Frz.le.refl _), hS⟩ ⟨rfl, rfl, (look_bool rfl (by first | rfl | (rw [hb2]; first | done | rfl) | simp [hb2])), trivial⟩
 rintro E w1 ⟨rfl, F1, le1, hS1⟩
 refine N_code ?_
 refine C_cond rfl (fun hc3 => ?_) (fun hc3 => ?_)
 ·
  rw [if_t hc3] at H
  refine C_seq ?_
  refine C_region ?_
  refine W_assign rfl rfl ?_
  refine W_assign rfl rfl ?_
  refine W_nil ?_
  refine N_code ?_
  have hS5 := hS1.nilRow Move.t 42
  obtain rfl := Option.some.inj H
  refine C_ret rfl rfl ?_
  exact ⟨F1, (.slice none 0 0), rfl, hS5⟩
 ·
  rw [if_f hc3] at H
  refine C_skip ?_
  refine N_code ?_
  refine C_seq_join (fun E wq => cellarerref20_Drives.k1 x0 x1 = some r ∧ ∃ (F6 : Frz), E = [(0, v0), (1, v1)] ∧ F1.le F6 ∧ St [] w F F6 [] wq) ?_ ?_
  ·
   refine C_seq ?_
   refine C_region ?_
   refine W_assign rfl rfl ?_
   refine W_nil ?_
   refine N_code ?_
   refine C_block ?_
   refine C_loopM (fun (s : Int) E wq => ∃ (F325 : Frz), E = [(0, v0), (1, v1), (6, .int .i64 s)] ∧ F1.le F325 ∧ St [] w F F325 [] wq) H ?_ ?_
   ·
    exact ⟨_, ⟨F1, rfl, (Frz.le.refl _), hS1⟩, ⟨rfl, rfl, rfl, trivial⟩⟩
   ·
    rintro rec327 i326 E w325 hI H
    try dsimp only at hI
    obtain ⟨F325, rfl, le325, hS325⟩ := hI
    dsimp only [cellarerref20_Drives.l16] at H
    refine C_seq ?_
    refine C_seq ?_
    refine C_region ?_
    refine W_move rfl rfl ?_
    refine W_move rfl rfl ?_
    refine W_lenv rfl Go.Proofs.Try.underlying22 rfl h0.ln ?_
    refine W_lss rfl rfl rfl ?_
    refine W_nil ?_
    refine N_code ?_
    refine C_cond rfl (fun hc328 => ?_) (fun hc328 => ?_)
    ·
     rw [if_t hc328] at H
     refine C_skip ?_
     refine N_code ?_
     refine C_seq_join (fun E wq => cellarerref20_Drives.k17 i326 rec327 = some r ∧ ∃ (F329 : Frz), E = [(0, v0), (1, v1), (6, .int .i64 i326)] ∧ F325.le F329 ∧ St [] w F F329 [] wq) ?_ ?_
     ·
      refine C_block ?_
      refine C_seq ?_
      refine C_region ?_
      refine W_assign rfl rfl ?_
      refine W_nil ?_
      refine N_code ?_
      refine C_block ?_
      refine C_loopM (fun (s : Int) E wq => ∃ (F330 : Frz), E = [(0, v0), (1, v1), (6, .int .i64 i326), (7, .int .i64 s)] ∧ F325.le F330 ∧ St [] w F F330 [] wq) H ?_ ?_
      ·
       exact ⟨_, ⟨F325, rfl, (Frz.le.refl _), hS325⟩, ⟨rfl, rfl, rfl, rfl, trivial⟩⟩
      ·
       rintro rec332 i331 E w330 hI H
       try dsimp only at hI
       obtain ⟨F330, rfl, le330, hS330⟩ := hI
       dsimp only [cellarerref20_Drives.l18] at H
       refine C_seq ?_
       refine C_seq ?_
       refine C_region ?_
       refine W_move rfl rfl ?_
       refine W_move rfl rfl ?_
       refine W_lss rfl rfl rfl ?_
       refine W_nil ?_
       refine N_code ?_
       refine C_cond rfl (fun hc333 => ?_) (fun hc333 => ?_)
       ·
        rw [if_t hc333] at H
        refine C_skip ?_
        refine N_code ?_
        refine C_seq ?_
        refine C_block ?_
        refine C_seq ?_
        obtain ⟨x334, hx334, H⟩ := bd_some H
        obtain ⟨x336, hx336, H⟩ := bd_some H
        obtain ⟨x338, hx338, H⟩ := bd_some H
        refine C_join (fun E wq => E = [(0, v0), (1, v1), (6, .int .i64 i326), (7, .int .i64 i331), (55, .bool (decide (0 ≤ x334) && decide (x336 = x338)))] ∧ ∃ F340 : Frz, F330.le F340 ∧ St [] w F F340 [] wq) ?_ ?_
        ·
         rcases Bool.eq_false_or_eq_true (decide (0 ≤ x334)) with hb341 | hb341
         ·
          obtain ⟨hp342, hy342⟩ := ix_some hx334
          obtain ⟨cs342, hr342, he342⟩ := (h0.mono ((le1.trans le325).trans le330)).at_ hy342
          obtain rfl := hr342
          replace he342 : Elf _ _ 1 _ _ := he342
          have hy343 := hx336
          rw [only_t hb341] at hy343
          obtain ⟨hp344, hy344⟩ := ix_some hy343
          obtain ⟨cs344, hr344, he344⟩ := (h0.mono ((le1.trans le325).trans le330)).at_ hy344
          obtain rfl := hr344
          replace he344 : Elf _ _ 1 _ _ := he344
          have hy345 := hx338
          rw [only_t hb341] at hy345
          obtain ⟨hp346, hy346⟩ := ix_some hy345
          obtain ⟨cs346, hr346, he346⟩ := (h0.mono ((le1.trans le325).trans le330)).at_ hy346
          obtain rfl := hr346
          replace he346 : Elf _ _ 1 _ _ := he346
          apply C_draw 15 [[], [], [0, 1], [2], [3], [4], [5], [5], [6, 7, 5], [8, 5], [5], [5], [10, 11, 5], [12, 5], [9, 13, 5]] [.val (v0), .val (.int .i64 i326), .val (elp v0 (i326.toNat * 1)), .val (.int .i64 x334), .val (.bool (decide (0 ≤ x334))), .val (.bool true), .val (v0), .val (.int .i64 i326), .val (elp v0 (i326.toNat * 1)), .val (.int .i64 x336), .val (v0), .val (.int .i64 i331), .val (elp v0 (i331.toNat * 1)), .val (.int .i64 x338), .val (.bool (decide (x336 = x338)))] Ty.mixed rfl rfl (by kernel_rfl) (by kernel_rfl) rfl
          ·
           refine ⟨?_, ?_, ?_, ?_, ?_, ?_, ?_, ?_, ?_, ?_, ?_, ?_, ?_, ?_, ?_, trivial⟩
           ·
            intro w347 vq347 hB347 hH347
            have hS347 := hS330.below hB347
            refine W_move rfl rfl ?_
            refine W_nil ?_
            exact N_step rfl rfl (Below.refl _ _)
           ·
            intro w348 vq348 hB348 hH348
            have hS348 := hS330.below hB348
            refine W_move rfl rfl ?_
            refine W_nil ?_
            exact N_step rfl rfl (Below.refl _ _)
           ·
            intro w349 vq349 hB349 hH349
            have hS349 := hS330.below hB349
            refine W_ix rfl Go.Proofs.Try.underlying22 Ty.cells3 Ty.info3 rfl rfl (he342.el hS349.agree) hp342 rfl ?_
            refine W_nil ?_
            exact N_step rfl rfl (Below.refl _ _)
           ·
            intro w350 vq350 hB350 hH350
            have hS350 := hS330.below hB350
            refine W_ld1 0 rfl Ty.cell3 rfl (he342.el hS350.agree) (by omega) rfl ?_
            refine W_nil ?_
            exact N_step rfl rfl (Below.refl _ _)
           ·
            intro w351 vq351 hB351 hH351
            have hS351 := hS330.below hB351
            refine W_geq rfl rfl rfl ?_
            refine W_nil ?_
            exact N_step rfl rfl (Below.refl _ _)
           ·
            intro w352 vq352 hB352 hH352
            have hS352 := hS330.below hB352
            refine W_move rfl rfl ?_
            refine W_nil ?_
            exact N_step rfl (congrArg Value.bool hb341) (Below.refl _ _)
           ·
            intro w353 vq353 hB353 hH353
            have hS353 := hS330.below hB353
            refine W_guard_yes rfl ?_
            refine W_move rfl rfl ?_
            refine W_nil ?_
            exact N_step rfl rfl (Below.refl _ _)
           ·
            intro w354 vq354 hB354 hH354
            have hS354 := hS330.below hB354
            refine W_guard_yes rfl ?_
            refine W_move rfl rfl ?_
            refine W_nil ?_
            exact N_step rfl rfl (Below.refl _ _)
           ·
            intro w355 vq355 hB355 hH355
            have hS355 := hS330.below hB355
            refine W_guard_yes rfl ?_
            refine W_ix rfl Go.Proofs.Try.underlying22 Ty.cells3 Ty.info3 rfl rfl (he344.el hS355.agree) hp344 rfl ?_
            refine W_nil ?_
            exact N_step rfl rfl (Below.refl _ _)
           ·
            intro w356 vq356 hB356 hH356
            have hS356 := hS330.below hB356
            refine W_guard_yes rfl ?_
            refine W_ld1 0 rfl Ty.cell3 rfl (he344.el hS356.agree) (by omega) rfl ?_
            refine W_nil ?_
            exact N_step rfl rfl (Below.refl _ _)
           ·
            intro w357 vq357 hB357 hH357
            have hS357 := hS330.below hB357
            refine W_guard_yes rfl ?_
            refine W_move rfl rfl ?_
            refine W_nil ?_
            exact N_step rfl rfl (Below.refl _ _)
           ·
            intro w358 vq358 hB358 hH358
            have hS358 := hS330.below hB358
            refine W_guard_yes rfl ?_
            refine W_move rfl rfl ?_
            refine W_nil ?_
            exact N_step rfl rfl (Below.refl _ _)
           ·
            intro w359 vq359 hB359 hH359
            have hS359 := hS330.below hB359
            refine W_guard_yes rfl ?_
            refine W_ix rfl Go.Proofs.Try.underlying22 Ty.cells3 Ty.info3 rfl rfl (he346.el hS359.agree) hp346 rfl ?_
            refine W_nil ?_
            exact N_step rfl rfl (Below.refl _ _)
           ·
            intro w360 vq360 hB360 hH360
            have hS360 := hS330.below hB360
            refine W_guard_yes rfl ?_
            refine W_ld1 0 rfl Ty.cell3 rfl (he346.el hS360.agree) (by omega) rfl ?_
            refine W_nil ?_
            exact N_step rfl rfl (Below.refl _ _)
           ·
            intro w361 vq361 hB361 hH361
            have hS361 := hS330.below hB361
            refine W_guard_yes rfl ?_
            refine W_eql rfl rfl rfl ?_
            refine W_nil ?_
            exact N_step rfl rfl (Below.refl _ _)
          intro w362 vq362 hB362 hH362
          have hS362 := hS330.below hB362
          refine W_pick_t rfl rfl rfl ?_
          refine W_nil ?_
          exact N_join _ ⟨rfl, F330, (Frz.le.refl _), hS362⟩ ⟨rfl, rfl, rfl, rfl, (look_bool rfl (by first | rfl | (rw [hb341]; first | done | rfl) | simp [hb341])), trivial⟩
         ·
          obtain ⟨hp363, hy363⟩ := ix_some hx334
          obtain ⟨cs363, hr363, he363⟩ := (h0.mono ((le1.trans le325).trans le330)).at_ hy363
          obtain rfl := hr363
          replace he363 : Elf _ _ 1 _ _ := he363
          apply C_draw 15 [[], [], [0, 1], [2], [3], [4], [5], [5], [6, 7, 5], [8, 5], [5], [5], [10, 11, 5], [12, 5], [9, 13, 5]] [.val (v0), .val (.int .i64 i326), .val (elp v0 (i326.toNat * 1)), .val (.int .i64 x334), .val (.bool (decide (0 ≤ x334))), .val (.bool false), .val undef, .val undef, .val undef, .val undef, .val undef, .val undef, .val undef, .val undef, .val undef] Ty.mixed rfl rfl (by kernel_rfl) (by kernel_rfl) rfl
          ·
           refine ⟨?_, ?_, ?_, ?_, ?_, ?_, ?_, ?_, ?_, ?_, ?_, ?_, ?_, ?_, ?_, trivial⟩
           ·
            intro w364 vq364 hB364 hH364
            have hS364 := hS330.below hB364
            refine W_move rfl rfl ?_
            refine W_nil ?_
            exact N_step rfl rfl (Below.refl _ _)
           ·
            intro w365 vq365 hB365 hH365
            have hS365 := hS330.below hB365
            refine W_move rfl rfl ?_
            refine W_nil ?_
            exact N_step rfl rfl (Below.refl _ _)
           ·
            intro w366 vq366 hB366 hH366
            have hS366 := hS330.below hB366
            refine W_ix rfl Go.Proofs.Try.underlying22 Ty.cells3 Ty.info3 rfl rfl (he363.el hS366.agree) hp363 rfl ?_
            refine W_nil ?_
            exact N_step rfl rfl (Below.refl _ _)
           ·
            intro w367 vq367 hB367 hH367
            have hS367 := hS330.below hB367
            refine W_ld1 0 rfl Ty.cell3 rfl (he363.el hS367.agree) (by omega) rfl ?_
            refine W_nil ?_
            exact N_step rfl rfl (Below.refl _ _)
           ·
            intro w368 vq368 hB368 hH368
            have hS368 := hS330.below hB368
            refine W_geq rfl rfl rfl ?_
            refine W_nil ?_
            exact N_step rfl rfl (Below.refl _ _)
           ·
            intro w369 vq369 hB369 hH369
            have hS369 := hS330.below hB369
            refine W_move rfl rfl ?_
            refine W_nil ?_
            exact N_step rfl (congrArg Value.bool hb341) (Below.refl _ _)
           ·
            intro w370 vq370 hB370 hH370
            have hS370 := hS330.below hB370
            refine W_guard_no rfl rfl rfl rfl rfl ?_
            refine W_nil ?_
            exact N_step rfl rfl (Below.refl _ _)
           ·
            intro w371 vq371 hB371 hH371
            have hS371 := hS330.below hB371
            refine W_guard_no rfl rfl rfl rfl rfl ?_
            refine W_nil ?_
            exact N_step rfl rfl (Below.refl _ _)
           ·
            intro w372 vq372 hB372 hH372
            have hS372 := hS330.below hB372
            refine W_guard_no rfl rfl rfl rfl rfl ?_
            refine W_nil ?_
            exact N_step rfl rfl (Below.refl _ _)
           ·
            intro w373 vq373 hB373 hH373
            have hS373 := hS330.below hB373
            refine W_guard_no rfl rfl rfl rfl rfl ?_
            refine W_nil ?_
            exact N_step rfl rfl (Below.refl _ _)
           ·
            intro w374 vq374 hB374 hH374
            have hS374 := hS330.below hB374
            refine W_guard_no rfl rfl rfl rfl rfl ?_
            refine W_nil ?_
            exact N_step rfl rfl (Below.refl _ _)
           ·
            intro w375 vq375 hB375 hH375
            have hS375 := hS330.below hB375
            refine W_guard_no rfl rfl rfl rfl rfl ?_
            refine W_nil ?_
            exact N_step rfl rfl (Below.refl _ _)
           ·
            intro w376 vq376 hB376 hH376
            have hS376 := hS330.below hB376
            refine W_guard_no rfl rfl rfl rfl rfl ?_
            refine W_nil ?_
            exact N_step rfl rfl (Below.refl _ _)
           ·
            intro w377 vq377 hB377 hH377
            have hS377 := hS330.below hB377
            refine W_guard_no rfl rfl rfl rfl rfl ?_
            refine W_nil ?_
            exact N_step rfl rfl (Below.refl _ _)
           ·
            intro w378 vq378 hB378 hH378
            have hS378 := hS330.below hB378
            refine W_guard_no rfl rfl rfl rfl rfl ?_
            refine W_nil ?_
            exact N_step rfl rfl (Below.refl _ _)
          intro w379 vq379 hB379 hH379
          have hS379 := hS330.below hB379
          refine W_pick_f rfl rfl rfl ?_
          refine W_nil ?_
          exact N_join _ ⟨rfl, F330, (Frz.le.refl _), hS379⟩ ⟨rfl, rfl, rfl, rfl, (look_bool rfl (by first | rfl | (rw [hb341]; first | done | rfl) | simp [hb341])), trivial⟩
        rintro E w340 ⟨rfl, F340, le340, hS340⟩
        refine N_code ?_
        refine C_cond rfl (fun hc380 => ?_) (fun hc380 => ?_)
        ·
         rw [if_t hc380] at H
         refine C_seq ?_
         refine C_region ?_
         refine W_assign rfl rfl ?_
         refine W_assign rfl rfl ?_
         refine W_nil ?_
         refine N_code ?_
         have hS382 := hS340.nilRow Move.t 42
         obtain rfl := Option.some.inj H
         refine C_ret rfl rfl ?_
         exact ⟨F340, (.slice none 0 0), rfl, hS382⟩
        ·
         rw [if_f hc380] at H
         refine C_skip ?_
         refine N_block ?_
         refine N_code ?_
         refine C_region ?_
         refine W_move rfl rfl ?_
         refine W_add rfl rfl rfl rfl ?_
         refine W_assign rfl rfl ?_
         refine W_nil ?_
         exact N_againM (wr (i331 + 1)) _ H ⟨F340, rfl, (le330.trans le340), hS340⟩ ⟨rfl, rfl, rfl, rfl, trivial⟩
       ·
        rw [if_f hc333] at H
        refine C_exit _ rfl ?_
        refine N_block ?_
        exact N_join _ ⟨H, ⟨F330, rfl, le330, hS330⟩⟩ ⟨rfl, rfl, rfl, trivial⟩
     ·
      rintro E w329 ⟨H, F329, rfl, le329, hS329⟩
      dsimp only [cellarerref20_Drives.k17] at H
      refine C_region ?_
      refine W_move rfl rfl ?_
      refine W_add rfl rfl rfl rfl ?_
      refine W_assign rfl rfl ?_
      refine W_nil ?_
      exact N_againM (wr (i326 + 1)) _ H ⟨F329, rfl, (le325.trans le329), hS329⟩ ⟨rfl, rfl, rfl, trivial⟩
    ·
     rw [if_f hc328] at H
     refine C_exit _ rfl ?_
     exact N_join _ ⟨H, ⟨F325, rfl, le325, hS325⟩⟩ ⟨rfl, rfl, trivial⟩
  ·
   rintro E w6 ⟨H, F6, rfl, le6, hS6⟩
   dsimp only [cellarerref20_Drives.k1] at H
   refine C_seq ?_
   refine C_seq ?_
   refine C_region ?_
   refine W_move rfl rfl ?_
   refine W_lenv rfl Go.Proofs.Try.underlying23 rfl h1.ln ?_
   refine W_gtr rfl rfl rfl ?_
   refine W_nil ?_
   refine N_code ?_
   refine C_cond rfl (fun hc7 => ?_) (fun hc7 => ?_)
   ·
    rw [if_t hc7] at H
    refine C_seq ?_
    refine C_region ?_
    refine W_assign rfl rfl ?_
    refine W_assign rfl rfl ?_
    refine W_nil ?_
    refine N_code ?_
    have hS9 := hS6.nilRow Move.t 42
    obtain rfl := Option.some.inj H
    refine C_ret rfl rfl ?_
    exact ⟨F6, (.slice none 0 0), rfl, hS9⟩
   ·
    rw [if_f hc7] at H
    refine C_skip ?_
    refine N_code ?_
    refine C_seq_join (fun E wq => cellarerref20_Drives.k2 x0 x1 = some r ∧ ∃ (F10 : Frz), E = [(0, v0), (1, v1)] ∧ F6.le F10 ∧ St [] w F F10 [] wq) ?_ ?_
    ·
     refine C_seq ?_
     refine C_region ?_
     refine W_assign rfl rfl ?_
     refine W_nil ?_
     refine N_code ?_
     refine C_block ?_
     refine C_loopM (fun (s : Int) E wq => ∃ (F315 : Frz), E = [(0, v0), (1, v1), (8, .int .i64 s)] ∧ F6.le F315 ∧ St [] w F F315 [] wq) H ?_ ?_
     ·
      exact ⟨_, ⟨F6, rfl, (Frz.le.refl _), hS6⟩, ⟨rfl, rfl, rfl, trivial⟩⟩
     ·
      rintro rec317 i316 E w315 hI H
      try dsimp only at hI
      obtain ⟨F315, rfl, le315, hS315⟩ := hI
      dsimp only [cellarerref20_Drives.l15] at H
      refine C_seq ?_
      refine C_seq ?_
      refine C_region ?_
      refine W_move rfl rfl ?_
      refine W_move rfl rfl ?_
      refine W_lenv rfl Go.Proofs.Try.underlying23 rfl h1.ln ?_
      refine W_lss rfl rfl rfl ?_
      refine W_nil ?_
      refine N_code ?_
      refine C_cond rfl (fun hc318 => ?_) (fun hc318 => ?_)
      ·
       rw [if_t hc318] at H
       refine C_skip ?_
       refine N_code ?_
       refine C_seq ?_
       refine C_block ?_
       refine C_seq ?_
       obtain ⟨x319, hx319, H⟩ := bd_some H
       refine C_region ?_
       refine W_move rfl rfl ?_
       refine W_move rfl rfl ?_
       obtain ⟨hp321, hy321⟩ := ix_some hx319
       obtain ⟨cs321, hr321, he321⟩ := (h1.mono ((le1.trans le6).trans le315)).at_ hy321
       obtain rfl := hr321
       replace he321 : Elf _ _ 5 _ _ := he321
       refine W_ix rfl Go.Proofs.Try.underlying23 Ty.cells39 Ty.info39 rfl rfl (he321.el hS315.agree) hp321 rfl ?_
       refine W_fld 1 rfl Ty.field39_1 rfl (he321.el hS315.agree) ?_
       refine W_fld 0 rfl Ty.field37_0 rfl (he321.el hS315.agree) ?_
       refine W_ld1 1 rfl Ty.cell3 rfl (he321.el hS315.agree) (by omega) rfl ?_
       refine W_lss rfl rfl rfl ?_
       refine W_nil ?_
       refine N_code ?_
       refine C_cond rfl (fun hc322 => ?_) (fun hc322 => ?_)
       ·
        rw [if_t hc322] at H
        refine C_seq ?_
        refine C_region ?_
        refine W_assign rfl rfl ?_
        refine W_assign rfl rfl ?_
        refine W_nil ?_
        refine N_code ?_
        have hS324 := hS315.nilRow Move.t 42
        obtain rfl := Option.some.inj H
        refine C_ret rfl rfl ?_
        exact ⟨F315, (.slice none 0 0), rfl, hS324⟩
       ·
        rw [if_f hc322] at H
        refine C_skip ?_
        refine N_block ?_
        refine N_code ?_
        refine C_region ?_
        refine W_move rfl rfl ?_
        refine W_add rfl rfl rfl rfl ?_
        refine W_assign rfl rfl ?_
        refine W_nil ?_
        exact N_againM (wr (i316 + 1)) _ H ⟨F315, rfl, le315, hS315⟩ ⟨rfl, rfl, rfl, trivial⟩
      ·
       rw [if_f hc318] at H
       refine C_exit _ rfl ?_
       exact N_join _ ⟨H, ⟨F315, rfl, le315, hS315⟩⟩ ⟨rfl, rfl, trivial⟩
    ·
     rintro E w10 ⟨H, F10, rfl, le10, hS10⟩
     dsimp only [cellarerref20_Drives.k2] at H
     refine C_seq ?_
     obtain ⟨r11, hr11, H⟩ := bd_some H
     refine C_region ?_
     refine W_move rfl rfl ?_
     refine W_call rfl Ty.named15 rfl (cellarerkeep_TwinInts_ok hS10.agree (h0.mono ((le1.trans le6).trans le10)) hr11) ?_
     rintro ur11_0 w12 ⟨Fr11, _, rfl, hT12⟩
     have hS12 := hS10.call hT12
     have ler11 := hT12.ext
     refine W_assign rfl rfl ?_
     refine W_nil ?_
     refine N_code ?_
     refine C_seq ?_
     obtain ⟨l13, hl13, H⟩ := bd_some H
     refine C_region ?_
     refine W_move rfl rfl ?_
     refine W_lenv rfl Go.Proofs.Try.underlying22 rfl (hS12.rowLn (k := 0) rfl) ?_
     refine W_mk (t := tI) (x0 := 0) rfl Go.Proofs.Try.underlying22 Ty.row3 rfl rfl rfl rfl hS12 rfl hl13 ?_
     intro v14 w14 hS14
     refine W_assign rfl rfl ?_
     refine W_nil ?_
     refine N_code ?_
     refine C_seq ?_
     obtain ⟨l15, hl15, H⟩ := bd_some H
     refine C_region ?_
     refine W_move rfl rfl ?_
     refine W_lenv rfl Go.Proofs.Try.underlying23 rfl h1.ln ?_
     refine W_mk (t := tBool) (x0 := false) rfl Go.Proofs.Try.underlying40 Ty.row4 rfl rfl rfl rfl hS14 rfl hl15 ?_
     intro v16 w16 hS16
     refine W_assign rfl rfl ?_
     refine W_nil ?_
     refine N_code ?_
     refine C_seq ?_
     refine C_region ?_
     refine W_assign rfl rfl ?_
     refine W_nil ?_
     refine N_code ?_
     refine C_block ?_
     refine C_loopM (fun (s : (List Move) × (List Bool) × (List Int) × (List Int)) E wq => ∃ (F17 : Frz) (u19 : Value), E = [(1, v1), (9, ur11_0), (10, v14), (11, v16), (12, u19)] ∧ Fr11.le F17 ∧ St [] w F F17 [.row tBool 4 v16 s.2.1, .row tI 3 v14 s.2.2.1, .row tI 3 ur11_0 s.2.2.2, .row Move.t 42 u19 s.1] wq) H ?_ ?_
     ·
      have hS314 := hS16.nilRow Move.t 42
      exact ⟨_, ⟨Fr11, (.slice none 0 0), rfl, (Frz.le.refl _), hS314.pick [1, 2, 3, 0] (by decide)⟩, ⟨rfl, rfl, rfl, rfl, rfl, trivial⟩⟩
     ·
      rintro rec24 ⟨l18, l21, l22, l23⟩ E w17 hI H
      try dsimp only at hI
      obtain ⟨F17, u19, rfl, le17, hS17⟩ := hI
      dsimp only [cellarerref20_Drives.l3] at H
      refine C_block ?_
      refine C_seq ?_
      refine C_region ?_
      refine W_assign rfl rfl ?_
      refine W_assign rfl rfl ?_
      refine W_assign rfl rfl ?_
      refine W_nil ?_
      refine N_code ?_
      refine C_seq_join (fun E wq => ∃ i26 : Int, cellarerref20_Drives.k4 x1 l18 l21 l22 l23 rec24 i26 = some r ∧ ∃ (F25 : Frz), E = [(1, v1), (9, ur11_0), (10, v14), (11, v16), (12, u19), (13, .int .i64 (-1)), (14, .int .i64 (-1)), (15, .int .i64 i26)] ∧ F17.le F25 ∧ St [] w F F25 [.row tBool 4 v16 l21, .row tI 3 v14 l22, .row tI 3 ur11_0 l23, .row Move.t 42 u19 l18] wq) ?_ ?_
      ·
       refine C_seq ?_
       refine C_region ?_
       refine W_assign rfl rfl ?_
       refine W_nil ?_
       refine N_code ?_
       refine C_block ?_
       refine C_loopM (fun (s : Int × Int) E wq => ∃ (F300 : Frz), E = [(1, v1), (9, ur11_0), (10, v14), (11, v16), (12, u19), (13, .int .i64 (-1)), (14, .int .i64 (-1)), (15, .int .i64 s.1), (16, .int .i64 s.2)] ∧ F17.le F300 ∧ St [] w F F300 [.row tBool 4 v16 l21, .row tI 3 v14 l22, .row tI 3 ur11_0 l23, .row Move.t 42 u19 l18] wq) H ?_ ?_
       ·
        exact ⟨_, ⟨F17, rfl, (Frz.le.refl _), hS17⟩, ⟨rfl, rfl, rfl, rfl, rfl, rfl, rfl, rfl, rfl, trivial⟩⟩
       ·
        rintro rec303 ⟨i301, i302⟩ E w300 hI H
        try dsimp only at hI
        obtain ⟨F300, rfl, le300, hS300⟩ := hI
        dsimp only [cellarerref20_Drives.l13] at H
        refine C_seq ?_
        refine C_seq ?_
        refine C_join (fun E wq => E = [(1, v1), (9, ur11_0), (10, v14), (11, v16), (12, u19), (13, .int .i64 (-1)), (14, .int .i64 (-1)), (15, .int .i64 i301), (16, .int .i64 i302), (87, .bool (decide (i302 < (x1.length : Int)) && decide (i301 < 0)))] ∧ ∃ F304 : Frz, F300.le F304 ∧ St [] w F F304 [.row tBool 4 v16 l21, .row tI 3 v14 l22, .row tI 3 ur11_0 l23, .row Move.t 42 u19 l18] wq) ?_ ?_
        ·
         rcases Bool.eq_false_or_eq_true (decide (i302 < (x1.length : Int))) with hb305 | hb305
         ·
          refine C_region ?_
          refine W_move rfl rfl ?_
          refine W_move rfl rfl ?_
          refine W_lenv rfl Go.Proofs.Try.underlying23 rfl h1.ln ?_
          refine W_lss rfl rfl rfl ?_
          refine W_move rfl rfl ?_
          refine W_known (t := 84) true rfl hb305 ?_
          refine W_guard_yes rfl ?_
          refine W_move rfl rfl ?_
          refine W_guard_yes rfl ?_
          refine W_lss rfl rfl rfl ?_
          refine W_pick_t rfl rfl rfl ?_
          refine W_nil ?_
          exact N_join _ ⟨rfl, F300, (Frz.le.refl _), hS300⟩ ⟨rfl, rfl, rfl, rfl, rfl, rfl, rfl, rfl, rfl, (look_bool rfl (by first | rfl | (rw [hb305]; first | done | rfl) | simp [hb305])), trivial⟩
         ·
          refine C_region ?_
          refine W_move rfl rfl ?_
          refine W_move rfl rfl ?_
          refine W_lenv rfl Go.Proofs.Try.underlying23 rfl h1.ln ?_
          refine W_lss rfl rfl rfl ?_
          refine W_move rfl rfl ?_
          refine W_known (t := 84) false rfl hb305 ?_
          refine W_guard_no rfl rfl rfl rfl rfl ?_
          refine W_guard_no rfl rfl rfl rfl rfl ?_
          refine W_pick_f rfl rfl rfl ?_
          refine W_nil ?_
          exact N_join _ ⟨rfl, F300, (Frz.le.refl _), hS300⟩ ⟨rfl, rfl, rfl, rfl, rfl, rfl, rfl, rfl, rfl, (look_bool rfl (by first | rfl | (rw [hb305]; first | done | rfl) | simp [hb305])), trivial⟩
        rintro E w304 ⟨rfl, F304, le304, hS304⟩
        refine N_code ?_
        refine C_cond rfl (fun hc306 => ?_) (fun hc306 => ?_)
        ·
         rw [if_t hc306] at H
         refine C_skip ?_
         refine N_code ?_
         refine C_seq_join (fun E wq => ∃ i308 : Int, cellarerref20_Drives.k14 i302 rec303 i308 = some r ∧ ∃ (F307 : Frz), E = [(1, v1), (9, ur11_0), (10, v14), (11, v16), (12, u19), (13, .int .i64 (-1)), (14, .int .i64 (-1)), (15, .int .i64 i308), (16, .int .i64 i302)] ∧ F304.le F307 ∧ St [] w F F307 [.row tBool 4 v16 l21, .row tI 3 v14 l22, .row tI 3 ur11_0 l23, .row Move.t 42 u19 l18] wq) ?_ ?_
         ·
          refine C_block ?_
          refine C_seq ?_
          obtain ⟨x309, hx309, H⟩ := bd_some H
          refine C_region ?_
          refine W_move rfl rfl ?_
          refine W_move rfl rfl ?_
          obtain ⟨hp311, hy311⟩ := ix_some hx309
          obtain ⟨cs311, hr311, he311⟩ := hS304.rowAt (k := 0) rfl hy311
          obtain rfl := hr311
          replace he311 : El _ _ 1 _ _ := he311
          refine W_ix rfl Go.Proofs.Try.underlying40 Ty.cells4 Ty.info4 rfl rfl he311 hp311 rfl ?_
          refine W_ld1 0 rfl Ty.cell4 rfl he311 (by omega) rfl ?_
          refine W_not rfl rfl ?_
          refine W_nil ?_
          refine N_code ?_
          refine C_cond rfl (fun hc312 => ?_) (fun hc312 => ?_)
          ·
           rw [if_t hc312] at H
           refine C_region ?_
           refine W_move rfl rfl ?_
           refine W_assign rfl rfl ?_
           refine W_nil ?_
           refine N_block ?_
           exact N_join _ ⟨i302, H, ⟨F304, rfl, (Frz.le.refl _), hS304⟩⟩ ⟨rfl, rfl, rfl, rfl, rfl, rfl, rfl, rfl, rfl, trivial⟩
          ·
           rw [if_f hc312] at H
           refine C_skip ?_
           refine N_block ?_
           exact N_join _ ⟨i301, H, ⟨F304, rfl, (Frz.le.refl _), hS304⟩⟩ ⟨rfl, rfl, rfl, rfl, rfl, rfl, rfl, rfl, rfl, trivial⟩
         ·
          rintro E w307 ⟨i308, H, F307, rfl, le307, hS307⟩
          dsimp only [cellarerref20_Drives.k14] at H
          refine C_region ?_
          refine W_move rfl rfl ?_
          refine W_add rfl rfl rfl rfl ?_
          refine W_assign rfl rfl ?_
          refine W_nil ?_
          exact N_againM (i308, wr (i302 + 1)) _ H ⟨F307, rfl, ((le300.trans le304).trans le307), hS307⟩ ⟨rfl, rfl, rfl, rfl, rfl, rfl, rfl, rfl, rfl, trivial⟩
        ·
         rw [if_f hc306] at H
         refine C_exit _ rfl ?_
         exact N_join _ ⟨i301, H, ⟨F304, rfl, (le300.trans le304), hS304⟩⟩ ⟨rfl, rfl, rfl, rfl, rfl, rfl, rfl, rfl, trivial⟩
      ·
       rintro E w25 ⟨i26, H, F25, rfl, le25, hS25⟩
       dsimp only [cellarerref20_Drives.k4] at H
       refine C_seq ?_
       refine C_seq ?_
       refine C_region ?_
       refine W_move rfl rfl ?_
       refine W_lss rfl rfl rfl ?_
       refine W_nil ?_
       refine N_code ?_
       refine C_cond rfl (fun hc27 => ?_) (fun hc27 => ?_)
       ·
        rw [if_t hc27] at H
        refine C_seq ?_
        refine C_region ?_
        refine W_move rfl rfl ?_
        refine W_assign rfl rfl ?_
        refine W_assign rfl rfl ?_
        refine W_nil ?_
        refine N_code ?_
        obtain rfl := Option.some.inj H
        refine C_ret rfl rfl ?_
        exact ⟨F25, u19, rfl, hS25.pick [3] (by decide)⟩
       ·
        rw [if_f hc27] at H
        refine C_skip ?_
        refine N_code ?_
        refine C_seq_join (fun E wq => ∃ i29 : Int, ∃ i30 : Int, cellarerref20_Drives.k5 x1 l18 l21 l22 l23 rec24 i26 i29 i30 = some r ∧ ∃ (F28 : Frz), E = [(1, v1), (9, ur11_0), (10, v14), (11, v16), (12, u19), (13, .int .i64 i29), (14, .int .i64 i30), (15, .int .i64 i26)] ∧ F25.le F28 ∧ St [] w F F28 [.row tBool 4 v16 l21, .row tI 3 v14 l22, .row tI 3 ur11_0 l23, .row Move.t 42 u19 l18] wq) ?_ ?_
        ·
         refine C_seq ?_
         refine C_region ?_
         refine W_assign rfl rfl ?_
         refine W_nil ?_
         refine N_code ?_
         refine C_block ?_
         refine C_loopM (fun (s : Int × Int × Int) E wq => ∃ (F180 : Frz), E = [(1, v1), (9, ur11_0), (10, v14), (11, v16), (12, u19), (13, .int .i64 s.1), (14, .int .i64 s.2.1), (15, .int .i64 i26), (17, .int .i64 s.2.2)] ∧ F25.le F180 ∧ St [] w F F180 [.row tBool 4 v16 l21, .row tI 3 v14 l22, .row tI 3 ur11_0 l23, .row Move.t 42 u19 l18] wq) H ?_ ?_
         ·
          exact ⟨_, ⟨F25, rfl, (Frz.le.refl _), hS25⟩, ⟨rfl, rfl, rfl, rfl, rfl, rfl, rfl, rfl, rfl, trivial⟩⟩
         ·
          rintro rec184 ⟨i181, i182, i183⟩ E w180 hI H
          try dsimp only at hI
          obtain ⟨F180, rfl, le180, hS180⟩ := hI
          dsimp only [cellarerref20_Drives.l9] at H
          refine C_seq ?_
          refine C_seq ?_
          refine C_join (fun E wq => E = [(1, v1), (9, ur11_0), (10, v14), (11, v16), (12, u19), (13, .int .i64 i181), (14, .int .i64 i182), (15, .int .i64 i26), (17, .int .i64 i183), (106, .bool (decide (i183 < (l23.length : Int)) && decide (i181 < 0)))] ∧ ∃ F185 : Frz, F180.le F185 ∧ St [] w F F185 [.row tBool 4 v16 l21, .row tI 3 v14 l22, .row tI 3 ur11_0 l23, .row Move.t 42 u19 l18] wq) ?_ ?_
          ·
           rcases Bool.eq_false_or_eq_true (decide (i183 < (l23.length : Int))) with hb186 | hb186
           ·
            refine C_region ?_
            refine W_move rfl rfl ?_
            refine W_move rfl rfl ?_
            refine W_lenv rfl Go.Proofs.Try.underlying22 rfl (hS180.rowLn (k := 2) rfl) ?_
            refine W_lss rfl rfl rfl ?_
            refine W_move rfl rfl ?_
            refine W_known (t := 103) true rfl hb186 ?_
            refine W_guard_yes rfl ?_
            refine W_move rfl rfl ?_
            refine W_guard_yes rfl ?_
            refine W_lss rfl rfl rfl ?_
            refine W_pick_t rfl rfl rfl ?_
            refine W_nil ?_
            exact N_join _ ⟨rfl, F180, (Frz.le.refl _), hS180⟩ ⟨rfl, rfl, rfl, rfl, rfl, rfl, rfl, rfl, rfl, (look_bool rfl (by first | rfl | (rw [hb186]; first | done | rfl) | simp [hb186])), trivial⟩
           ·
            refine C_region ?_
            refine W_move rfl rfl ?_
            refine W_move rfl rfl ?_
            refine W_lenv rfl Go.Proofs.Try.underlying22 rfl (hS180.rowLn (k := 2) rfl) ?_
            refine W_lss rfl rfl rfl ?_
            refine W_move rfl rfl ?_
            refine W_known (t := 103) false rfl hb186 ?_
            refine W_guard_no rfl rfl rfl rfl rfl ?_
            refine W_guard_no rfl rfl rfl rfl rfl ?_
            refine W_pick_f rfl rfl rfl ?_
            refine W_nil ?_
            exact N_join _ ⟨rfl, F180, (Frz.le.refl _), hS180⟩ ⟨rfl, rfl, rfl, rfl, rfl, rfl, rfl, rfl, rfl, (look_bool rfl (by first | rfl | (rw [hb186]; first | done | rfl) | simp [hb186])), trivial⟩
          rintro E w185 ⟨rfl, F185, le185, hS185⟩
          refine N_code ?_
          refine C_cond rfl (fun hc187 => ?_) (fun hc187 => ?_)
          ·
           rw [if_t hc187] at H
           refine C_skip ?_
           refine N_code ?_
           refine C_seq_join (fun E wq => ∃ i189 : Int, ∃ i190 : Int, cellarerref20_Drives.k10 i183 rec184 i189 i190 = some r ∧ ∃ (F188 : Frz), E = [(1, v1), (9, ur11_0), (10, v14), (11, v16), (12, u19), (13, .int .i64 i189), (14, .int .i64 i190), (15, .int .i64 i26), (17, .int .i64 i183)] ∧ F185.le F188 ∧ St [] w F F188 [.row tBool 4 v16 l21, .row tI 3 v14 l22, .row tI 3 ur11_0 l23, .row Move.t 42 u19 l18] wq) ?_ ?_
           ·
            refine C_block ?_
            refine C_seq ?_
            refine C_region ?_
            refine W_assign rfl rfl ?_
            refine W_nil ?_
            refine N_code ?_
            refine C_block ?_
            refine C_loopM (fun (s : Int × Int × Int) E wq => ∃ (F191 : Frz), E = [(1, v1), (9, ur11_0), (10, v14), (11, v16), (12, u19), (13, .int .i64 s.1), (14, .int .i64 s.2.1), (15, .int .i64 i26), (17, .int .i64 i183), (18, .int .i64 s.2.2)] ∧ F185.le F191 ∧ St [] w F F191 [.row tBool 4 v16 l21, .row tI 3 v14 l22, .row tI 3 ur11_0 l23, .row Move.t 42 u19 l18] wq) H ?_ ?_
            ·
             exact ⟨_, ⟨F185, rfl, (Frz.le.refl _), hS185⟩, ⟨rfl, rfl, rfl, rfl, rfl, rfl, rfl, rfl, rfl, rfl, trivial⟩⟩
            ·
             rintro rec195 ⟨i192, i193, i194⟩ E w191 hI H
             try dsimp only at hI
             obtain ⟨F191, rfl, le191, hS191⟩ := hI
             dsimp only [cellarerref20_Drives.l11] at H
             refine C_seq ?_
             refine C_seq ?_
             refine C_join (fun E wq => E = [(1, v1), (9, ur11_0), (10, v14), (11, v16), (12, u19), (13, .int .i64 i192), (14, .int .i64 i193), (15, .int .i64 i26), (17, .int .i64 i183), (18, .int .i64 i194), (116, .bool (decide (i194 < (x1.length : Int)) && decide (i192 < 0)))] ∧ ∃ F196 : Frz, F191.le F196 ∧ St [] w F F196 [.row tBool 4 v16 l21, .row tI 3 v14 l22, .row tI 3 ur11_0 l23, .row Move.t 42 u19 l18] wq) ?_ ?_
             ·
              rcases Bool.eq_false_or_eq_true (decide (i194 < (x1.length : Int))) with hb197 | hb197
              ·
               refine C_region ?_
               refine W_move rfl rfl ?_
               refine W_move rfl rfl ?_
               refine W_lenv rfl Go.Proofs.Try.underlying23 rfl h1.ln ?_
               refine W_lss rfl rfl rfl ?_
               refine W_move rfl rfl ?_
               refine W_known (t := 113) true rfl hb197 ?_
               refine W_guard_yes rfl ?_
               refine W_move rfl rfl ?_
               refine W_guard_yes rfl ?_
               refine W_lss rfl rfl rfl ?_
               refine W_pick_t rfl rfl rfl ?_
               refine W_nil ?_
               exact N_join _ ⟨rfl, F191, (Frz.le.refl _), hS191⟩ ⟨rfl, rfl, rfl, rfl, rfl, rfl, rfl, rfl, rfl, rfl, (look_bool rfl (by first | rfl | (rw [hb197]; first | done | rfl) | simp [hb197])), trivial⟩
              ·
               refine C_region ?_
               refine W_move rfl rfl ?_
               refine W_move rfl rfl ?_
               refine W_lenv rfl Go.Proofs.Try.underlying23 rfl h1.ln ?_
               refine W_lss rfl rfl rfl ?_
               refine W_move rfl rfl ?_
               refine W_known (t := 113) false rfl hb197 ?_
               refine W_guard_no rfl rfl rfl rfl rfl ?_
               refine W_guard_no rfl rfl rfl rfl rfl ?_
               refine W_pick_f rfl rfl rfl ?_
               refine W_nil ?_
               exact N_join _ ⟨rfl, F191, (Frz.le.refl _), hS191⟩ ⟨rfl, rfl, rfl, rfl, rfl, rfl, rfl, rfl, rfl, rfl, (look_bool rfl (by first | rfl | (rw [hb197]; first | done | rfl) | simp [hb197])), trivial⟩
             rintro E w196 ⟨rfl, F196, le196, hS196⟩
             refine N_code ?_
             refine C_cond rfl (fun hc198 => ?_) (fun hc198 => ?_)
             ·
              rw [if_t hc198] at H
              refine C_skip ?_
              refine N_code ?_
              refine C_seq_join (fun E wq => ∃ i200 : Int, ∃ i201 : Int, cellarerref20_Drives.k12 i194 rec195 i200 i201 = some r ∧ ∃ (F199 : Frz), E = [(1, v1), (9, ur11_0), (10, v14), (11, v16), (12, u19), (13, .int .i64 i200), (14, .int .i64 i201), (15, .int .i64 i26), (17, .int .i64 i183), (18, .int .i64 i194)] ∧ F196.le F199 ∧ St [] w F F199 [.row tBool 4 v16 l21, .row tI 3 v14 l22, .row tI 3 ur11_0 l23, .row Move.t 42 u19 l18] wq) ?_ ?_
              ·
               refine C_block ?_
               refine C_seq ?_
               obtain ⟨x202, hx202, H⟩ := bd_some H
               obtain ⟨x204, hx204, H⟩ := bd_some H
               obtain ⟨x206, hx206, H⟩ := bd_some H
               obtain ⟨x208, hx208, H⟩ := bd_some H
               refine C_join (fun E wq => E = [(1, v1), (9, ur11_0), (10, v14), (11, v16), (12, u19), (13, .int .i64 i192), (14, .int .i64 i193), (15, .int .i64 i26), (17, .int .i64 i183), (18, .int .i64 i194), (143, .bool (((!x202) && decide (0 ≤ x204)) && decide (x206.loc.vol = x208)))] ∧ ∃ F210 : Frz, F196.le F210 ∧ St [] w F F210 [.row tBool 4 v16 l21, .row tI 3 v14 l22, .row tI 3 ur11_0 l23, .row Move.t 42 u19 l18] wq) ?_ ?_
               ·
                rcases Bool.eq_false_or_eq_true (!x202) with hb211 | hb211
                ·
                 rcases Bool.eq_false_or_eq_true (decide (0 ≤ x204)) with hb212 | hb212
                 ·
                  obtain ⟨hp213, hy213⟩ := ix_some hx202
                  obtain ⟨cs213, hr213, he213⟩ := hS196.rowAt (k := 0) rfl hy213
                  obtain rfl := hr213
                  replace he213 : El _ _ 1 _ _ := he213
                  have hy214 := hx204
                  rw [only_t hb211] at hy214
                  obtain ⟨hp215, hy215⟩ := ix_some hy214
                  obtain ⟨cs215, hr215, he215⟩ := hS196.rowAt (k := 2) rfl hy215
                  obtain rfl := hr215
                  replace he215 : El _ _ 1 _ _ := he215
                  have hy216 := hx206
                  rw [only_t (by first | rfl | (rw [hb212, hb211]; first | done | rfl) | simp [hb211, hb212])] at hy216
                  obtain ⟨hp217, hy217⟩ := ix_some hy216
                  obtain ⟨cs217, hr217, he217⟩ := (h1.mono (((((((((le1.trans le6).trans le10).trans ler11).trans le17).trans le25).trans le180).trans le185).trans le191).trans le196)).at_ hy217
                  obtain rfl := hr217
                  replace he217 : Elf _ _ 5 _ _ := he217
                  have hy218 := hx208
                  rw [only_t (by first | rfl | (rw [hb212, hb211]; first | done | rfl) | simp [hb211, hb212])] at hy218
                  obtain ⟨hp219, hy219⟩ := ix_some hy218
                  obtain ⟨cs219, hr219, he219⟩ := hS196.rowAt (k := 2) rfl hy219
                  obtain rfl := hr219
                  replace he219 : El _ _ 1 _ _ := he219
                  apply C_draw 24 [[], [], [0, 1], [2], [3], [4], [5], [5], [6, 7, 5], [8, 5], [9, 5], [5, 10], [11], [12], [12], [13, 14, 12], [15, 12], [16, 12], [17, 12], [12], [12], [19, 20, 12], [21, 12], [18, 22, 12]] [.val (v16), .val (.int .i64 i194), .val (elp v16 (i194.toNat * 1)), .val (.bool x202), .val (.bool (!x202)), .val (.bool true), .val (ur11_0), .val (.int .i64 i183), .val (elp ur11_0 (i183.toNat * 1)), .val (.int .i64 x204), .val (.bool (decide (0 ≤ x204))), .val (.bool (decide (0 ≤ x204))), .val (.bool true), .val (v1), .val (.int .i64 i194), .val (elp v1 (i194.toNat * 5)), .val (elp v1 ((i194.toNat * 5) + 1)), .val (elp v1 (((i194.toNat * 5) + 1) + 0)), .val (.int .i64 x206.loc.vol), .val (ur11_0), .val (.int .i64 i183), .val (elp ur11_0 (i183.toNat * 1)), .val (.int .i64 x208), .val (.bool (decide (x206.loc.vol = x208)))] Ty.mixed rfl rfl (by kernel_rfl) (by kernel_rfl) rfl
                  ·
                   refine ⟨?_, ?_, ?_, ?_, ?_, ?_, ?_, ?_, ?_, ?_, ?_, ?_, ?_, ?_, ?_, ?_, ?_, ?_, ?_, ?_, ?_, ?_, ?_, ?_, trivial⟩
                   ·
                    intro w220 vq220 hB220 hH220
                    have hS220 := hS196.below hB220
                    refine W_move rfl rfl ?_
                    refine W_nil ?_
                    exact N_step rfl rfl (Below.refl _ _)
                   ·
                    intro w221 vq221 hB221 hH221
                    have hS221 := hS196.below hB221
                    refine W_move rfl rfl ?_
                    refine W_nil ?_
                    exact N_step rfl rfl (Below.refl _ _)
                   ·
                    intro w222 vq222 hB222 hH222
                    have hS222 := hS196.below hB222
                    refine W_ix rfl Go.Proofs.Try.underlying40 Ty.cells4 Ty.info4 rfl rfl (he213.below hB222) hp213 rfl ?_
                    refine W_nil ?_
                    exact N_step rfl rfl (Below.refl _ _)
                   ·
                    intro w223 vq223 hB223 hH223
                    have hS223 := hS196.below hB223
                    refine W_ld1 0 rfl Ty.cell4 rfl (he213.below hB223) (by omega) rfl ?_
                    refine W_nil ?_
                    exact N_step rfl rfl (Below.refl _ _)
                   ·
                    intro w224 vq224 hB224 hH224
                    have hS224 := hS196.below hB224
                    refine W_not rfl rfl ?_
                    refine W_nil ?_
                    exact N_step rfl rfl (Below.refl _ _)
                   ·
                    intro w225 vq225 hB225 hH225
                    have hS225 := hS196.below hB225
                    refine W_move rfl rfl ?_
                    refine W_nil ?_
                    exact N_step rfl (congrArg Value.bool hb211) (Below.refl _ _)
                   ·
                    intro w226 vq226 hB226 hH226
                    have hS226 := hS196.below hB226
                    refine W_guard_yes rfl ?_
                    refine W_move rfl rfl ?_
                    refine W_nil ?_
                    exact N_step rfl rfl (Below.refl _ _)
                   ·
                    intro w227 vq227 hB227 hH227
                    have hS227 := hS196.below hB227
                    refine W_guard_yes rfl ?_
                    refine W_move rfl rfl ?_
                    refine W_nil ?_
                    exact N_step rfl rfl (Below.refl _ _)
                   ·
                    intro w228 vq228 hB228 hH228
                    have hS228 := hS196.below hB228
                    refine W_guard_yes rfl ?_
                    refine W_ix rfl Go.Proofs.Try.underlying22 Ty.cells3 Ty.info3 rfl rfl (he215.below hB228) hp215 rfl ?_
                    refine W_nil ?_
                    exact N_step rfl rfl (Below.refl _ _)
                   ·
                    intro w229 vq229 hB229 hH229
                    have hS229 := hS196.below hB229
                    refine W_guard_yes rfl ?_
                    refine W_ld1 0 rfl Ty.cell3 rfl (he215.below hB229) (by omega) rfl ?_
                    refine W_nil ?_
                    exact N_step rfl rfl (Below.refl _ _)
                   ·
                    intro w230 vq230 hB230 hH230
                    have hS230 := hS196.below hB230
                    refine W_guard_yes rfl ?_
                    refine W_geq rfl rfl rfl ?_
                    refine W_nil ?_
                    exact N_step rfl rfl (Below.refl _ _)
                   ·
                    intro w231 vq231 hB231 hH231
                    have hS231 := hS196.below hB231
                    refine W_pick_t rfl rfl rfl ?_
                    refine W_nil ?_
                    exact N_step rfl rfl (Below.refl _ _)
                   ·
                    intro w232 vq232 hB232 hH232
                    have hS232 := hS196.below hB232
                    refine W_move rfl rfl ?_
                    refine W_nil ?_
                    exact N_step rfl (congrArg Value.bool hb212) (Below.refl _ _)
                   ·
                    intro w233 vq233 hB233 hH233
                    have hS233 := hS196.below hB233
                    refine W_guard_yes rfl ?_
                    refine W_move rfl rfl ?_
                    refine W_nil ?_
                    exact N_step rfl rfl (Below.refl _ _)
                   ·
                    intro w234 vq234 hB234 hH234
                    have hS234 := hS196.below hB234
                    refine W_guard_yes rfl ?_
                    refine W_move rfl rfl ?_
                    refine W_nil ?_
                    exact N_step rfl rfl (Below.refl _ _)
                   ·
                    intro w235 vq235 hB235 hH235
                    have hS235 := hS196.below hB235
                    refine W_guard_yes rfl ?_
                    refine W_ix rfl Go.Proofs.Try.underlying23 Ty.cells39 Ty.info39 rfl rfl (he217.el hS235.agree) hp217 rfl ?_
                    refine W_nil ?_
                    exact N_step rfl rfl (Below.refl _ _)
                   ·
                    intro w236 vq236 hB236 hH236
                    have hS236 := hS196.below hB236
                    refine W_guard_yes rfl ?_
                    refine W_fld 1 rfl Ty.field39_1 rfl (he217.el hS236.agree) ?_
                    refine W_nil ?_
                    exact N_step rfl rfl (Below.refl _ _)
                   ·
                    intro w237 vq237 hB237 hH237
                    have hS237 := hS196.below hB237
                    refine W_guard_yes rfl ?_
                    refine W_fld 0 rfl Ty.field37_0 rfl (he217.el hS237.agree) ?_
                    refine W_nil ?_
                    exact N_step rfl rfl (Below.refl _ _)
                   ·
                    intro w238 vq238 hB238 hH238
                    have hS238 := hS196.below hB238
                    refine W_guard_yes rfl ?_
                    refine W_ld1 1 rfl Ty.cell3 rfl (he217.el hS238.agree) (by omega) rfl ?_
                    refine W_nil ?_
                    exact N_step rfl rfl (Below.refl _ _)
                   ·
                    intro w239 vq239 hB239 hH239
                    have hS239 := hS196.below hB239
                    refine W_guard_yes rfl ?_
                    refine W_move rfl rfl ?_
                    refine W_nil ?_
                    exact N_step rfl rfl (Below.refl _ _)
                   ·
                    intro w240 vq240 hB240 hH240
                    have hS240 := hS196.below hB240
                    refine W_guard_yes rfl ?_
                    refine W_move rfl rfl ?_
                    refine W_nil ?_
                    exact N_step rfl rfl (Below.refl _ _)
                   ·
                    intro w241 vq241 hB241 hH241
                    have hS241 := hS196.below hB241
                    refine W_guard_yes rfl ?_
                    refine W_ix rfl Go.Proofs.Try.underlying22 Ty.cells3 Ty.info3 rfl rfl (he219.below hB241) hp219 rfl ?_
                    refine W_nil ?_
                    exact N_step rfl rfl (Below.refl _ _)
                   ·
                    intro w242 vq242 hB242 hH242
                    have hS242 := hS196.below hB242
                    refine W_guard_yes rfl ?_
                    refine W_ld1 0 rfl Ty.cell3 rfl (he219.below hB242) (by omega) rfl ?_
                    refine W_nil ?_
                    exact N_step rfl rfl (Below.refl _ _)
                   ·
                    intro w243 vq243 hB243 hH243
                    have hS243 := hS196.below hB243
                    refine W_guard_yes rfl ?_
                    refine W_eql rfl rfl rfl ?_
                    refine W_nil ?_
                    exact N_step rfl rfl (Below.refl _ _)
                  intro w244 vq244 hB244 hH244
                  have hS244 := hS196.below hB244
                  refine W_pick_t rfl rfl rfl ?_
                  refine W_nil ?_
                  exact N_join _ ⟨rfl, F196, (Frz.le.refl _), hS244⟩ ⟨rfl, rfl, rfl, rfl, rfl, rfl, rfl, rfl, rfl, rfl, (look_bool rfl (by first | rfl | (rw [hb212, hb211]; first | done | rfl) | simp [hb211, hb212])), trivial⟩
                 ·
                  obtain ⟨hp245, hy245⟩ := ix_some hx202
                  obtain ⟨cs245, hr245, he245⟩ := hS196.rowAt (k := 0) rfl hy245
                  obtain rfl := hr245
                  replace he245 : El _ _ 1 _ _ := he245
                  have hy246 := hx204
                  rw [only_t hb211] at hy246
                  obtain ⟨hp247, hy247⟩ := ix_some hy246
                  obtain ⟨cs247, hr247, he247⟩ := hS196.rowAt (k := 2) rfl hy247
                  obtain rfl := hr247
                  replace he247 : El _ _ 1 _ _ := he247
                  apply C_draw 24 [[], [], [0, 1], [2], [3], [4], [5], [5], [6, 7, 5], [8, 5], [9, 5], [5, 10], [11], [12], [12], [13, 14, 12], [15, 12], [16, 12], [17, 12], [12], [12], [19, 20, 12], [21, 12], [18, 22, 12]] [.val (v16), .val (.int .i64 i194), .val (elp v16 (i194.toNat * 1)), .val (.bool x202), .val (.bool (!x202)), .val (.bool true), .val (ur11_0), .val (.int .i64 i183), .val (elp ur11_0 (i183.toNat * 1)), .val (.int .i64 x204), .val (.bool (decide (0 ≤ x204))), .val (.bool (decide (0 ≤ x204))), .val (.bool false), .val undef, .val undef, .val undef, .val undef, .val undef, .val undef, .val undef, .val undef, .val undef, .val undef, .val undef] Ty.mixed rfl rfl (by kernel_rfl) (by kernel_rfl) rfl
                  ·
                   refine ⟨?_, ?_, ?_, ?_, ?_, ?_, ?_, ?_, ?_, ?_, ?_, ?_, ?_, ?_, ?_, ?_, ?_, ?_, ?_, ?_, ?_, ?_, ?_, ?_, trivial⟩
                   ·
                    intro w248 vq248 hB248 hH248
                    have hS248 := hS196.below hB248
                    refine W_move rfl rfl ?_
                    refine W_nil ?_
                    exact N_step rfl rfl (Below.refl _ _)
                   ·
                    intro w249 vq249 hB249 hH249
                    have hS249 := hS196.below hB249
                    refine W_move rfl rfl ?_
                    refine W_nil ?_
                    exact N_step rfl rfl (Below.refl _ _)
                   ·
                    intro w250 vq250 hB250 hH250
                    have hS250 := hS196.below hB250
                    refine W_ix rfl Go.Proofs.Try.underlying40 Ty.cells4 Ty.info4 rfl rfl (he245.below hB250) hp245 rfl ?_
                    refine W_nil ?_
                    exact N_step rfl rfl (Below.refl _ _)
                   ·
                    intro w251 vq251 hB251 hH251
                    have hS251 := hS196.below hB251
                    refine W_ld1 0 rfl Ty.cell4 rfl (he245.below hB251) (by omega) rfl ?_
                    refine W_nil ?_
                    exact N_step rfl rfl (Below.refl _ _)
                   ·
                    intro w252 vq252 hB252 hH252
                    have hS252 := hS196.below hB252
                    refine W_not rfl rfl ?_
                    refine W_nil ?_
                    exact N_step rfl rfl (Below.refl _ _)
                   ·
                    intro w253 vq253 hB253 hH253
                    have hS253 := hS196.below hB253
                    refine W_move rfl rfl ?_
                    refine W_nil ?_
                    exact N_step rfl (congrArg Value.bool hb211) (Below.refl _ _)
                   ·
                    intro w254 vq254 hB254 hH254
                    have hS254 := hS196.below hB254
                    refine W_guard_yes rfl ?_
                    refine W_move rfl rfl ?_
                    refine W_nil ?_
                    exact N_step rfl rfl (Below.refl _ _)
                   ·
                    intro w255 vq255 hB255 hH255
                    have hS255 := hS196.below hB255
                    refine W_guard_yes rfl ?_
                    refine W_move rfl rfl ?_
                    refine W_nil ?_
                    exact N_step rfl rfl (Below.refl _ _)
                   ·
                    intro w256 vq256 hB256 hH256
                    have hS256 := hS196.below hB256
                    refine W_guard_yes rfl ?_
                    refine W_ix rfl Go.Proofs.Try.underlying22 Ty.cells3 Ty.info3 rfl rfl (he247.below hB256) hp247 rfl ?_
                    refine W_nil ?_
                    exact N_step rfl rfl (Below.refl _ _)
                   ·
                    intro w257 vq257 hB257 hH257
                    have hS257 := hS196.below hB257
                    refine W_guard_yes rfl ?_
                    refine W_ld1 0 rfl Ty.cell3 rfl (he247.below hB257) (by omega) rfl ?_
                    refine W_nil ?_
                    exact N_step rfl rfl (Below.refl _ _)
                   ·
                    intro w258 vq258 hB258 hH258
                    have hS258 := hS196.below hB258
                    refine W_guard_yes rfl ?_
                    refine W_geq rfl rfl rfl ?_
                    refine W_nil ?_
                    exact N_step rfl rfl (Below.refl _ _)
                   ·
                    intro w259 vq259 hB259 hH259
                    have hS259 := hS196.below hB259
                    refine W_pick_t rfl rfl rfl ?_
                    refine W_nil ?_
                    exact N_step rfl rfl (Below.refl _ _)
                   ·
                    intro w260 vq260 hB260 hH260
                    have hS260 := hS196.below hB260
                    refine W_move rfl rfl ?_
                    refine W_nil ?_
                    exact N_step rfl (congrArg Value.bool hb212) (Below.refl _ _)
                   ·
                    intro w261 vq261 hB261 hH261
                    have hS261 := hS196.below hB261
                    refine W_guard_no rfl rfl rfl rfl rfl ?_
                    refine W_nil ?_
                    exact N_step rfl rfl (Below.refl _ _)
                   ·
                    intro w262 vq262 hB262 hH262
                    have hS262 := hS196.below hB262
                    refine W_guard_no rfl rfl rfl rfl rfl ?_
                    refine W_nil ?_
                    exact N_step rfl rfl (Below.refl _ _)
                   ·
                    intro w263 vq263 hB263 hH263
                    have hS263 := hS196.below hB263
                    refine W_guard_no rfl rfl rfl rfl rfl ?_
                    refine W_nil ?_
                    exact N_step rfl rfl (Below.refl _ _)
                   ·
                    intro w264 vq264 hB264 hH264
                    have hS264 := hS196.below hB264
                    refine W_guard_no rfl rfl rfl rfl rfl ?_
                    refine W_nil ?_
                    exact N_step rfl rfl (Below.refl _ _)
                   ·
                    intro w265 vq265 hB265 hH265
                    have hS265 := hS196.below hB265
                    refine W_guard_no rfl rfl rfl rfl rfl ?_
                    refine W_nil ?_
                    exact N_step rfl rfl (Below.refl _ _)
                   ·
                    intro w266 vq266 hB266 hH266
                    have hS266 := hS196.below hB266
                    refine W_guard_no rfl rfl rfl rfl rfl ?_
                    refine W_nil ?_
                    exact N_step rfl rfl (Below.refl _ _)
                   ·
                    intro w267 vq267 hB267 hH267
                    have hS267 := hS196.below hB267
                    refine W_guard_no rfl rfl rfl rfl rfl ?_
                    refine W_nil ?_
                    exact N_step rfl rfl (Below.refl _ _)
                   ·
                    intro w268 vq268 hB268 hH268
                    have hS268 := hS196.below hB268
                    refine W_guard_no rfl rfl rfl rfl rfl ?_
                    refine W_nil ?_
                    exact N_step rfl rfl (Below.refl _ _)
                   ·
                    intro w269 vq269 hB269 hH269
                    have hS269 := hS196.below hB269
                    refine W_guard_no rfl rfl rfl rfl rfl ?_
                    refine W_nil ?_
                    exact N_step rfl rfl (Below.refl _ _)
                   ·
                    intro w270 vq270 hB270 hH270
                    have hS270 := hS196.below hB270
                    refine W_guard_no rfl rfl rfl rfl rfl ?_
                    refine W_nil ?_
                    exact N_step rfl rfl (Below.refl _ _)
                   ·
                    intro w271 vq271 hB271 hH271
                    have hS271 := hS196.below hB271
                    refine W_guard_no rfl rfl rfl rfl rfl ?_
                    refine W_nil ?_
                    exact N_step rfl rfl (Below.refl _ _)
                  intro w272 vq272 hB272 hH272
                  have hS272 := hS196.below hB272
                  refine W_pick_f rfl rfl rfl ?_
                  refine W_nil ?_
                  exact N_join _ ⟨rfl, F196, (Frz.le.refl _), hS272⟩ ⟨rfl, rfl, rfl, rfl, rfl, rfl, rfl, rfl, rfl, rfl, (look_bool rfl (by first | rfl | (rw [hb212, hb211]; first | done | rfl) | simp [hb211, hb212])), trivial⟩
                ·
                 obtain ⟨hp273, hy273⟩ := ix_some hx202
                 obtain ⟨cs273, hr273, he273⟩ := hS196.rowAt (k := 0) rfl hy273
                 obtain rfl := hr273
                 replace he273 : El _ _ 1 _ _ := he273
                 apply C_draw 24 [[], [], [0, 1], [2], [3], [4], [5], [5], [6, 7, 5], [8, 5], [9, 5], [5, 10], [11], [12], [12], [13, 14, 12], [15, 12], [16, 12], [17, 12], [12], [12], [19, 20, 12], [21, 12], [18, 22, 12]] [.val (v16), .val (.int .i64 i194), .val (elp v16 (i194.toNat * 1)), .val (.bool x202), .val (.bool (!x202)), .val (.bool false), .val undef, .val undef, .val undef, .val undef, .val undef, .val (.bool false), .val (.bool false), .val undef, .val undef, .val undef, .val undef, .val undef, .val undef, .val undef, .val undef, .val undef, .val undef, .val undef] Ty.mixed rfl rfl (by kernel_rfl) (by kernel_rfl) rfl
                 ·
                  refine ⟨?_, ?_, ?_, ?_, ?_, ?_, ?_, ?_, ?_, ?_, ?_, ?_, ?_, ?_, ?_, ?_, ?_, ?_, ?_, ?_, ?_, ?_, ?_, ?_, trivial⟩
                  ·
                   intro w274 vq274 hB274 hH274
                   have hS274 := hS196.below hB274
                   refine W_move rfl rfl ?_
                   refine W_nil ?_
                   exact N_step rfl rfl (Below.refl _ _)
                  ·
                   intro w275 vq275 hB275 hH275
                   have hS275 := hS196.below hB275
                   refine W_move rfl rfl ?_
                   refine W_nil ?_
                   exact N_step rfl rfl (Below.refl _ _)
                  ·
                   intro w276 vq276 hB276 hH276
                   have hS276 := hS196.below hB276
                   refine W_ix rfl Go.Proofs.Try.underlying40 Ty.cells4 Ty.info4 rfl rfl (he273.below hB276) hp273 rfl ?_
                   refine W_nil ?_
                   exact N_step rfl rfl (Below.refl _ _)
                  ·
                   intro w277 vq277 hB277 hH277
                   have hS277 := hS196.below hB277
                   refine W_ld1 0 rfl Ty.cell4 rfl (he273.below hB277) (by omega) rfl ?_
                   refine W_nil ?_
                   exact N_step rfl rfl (Below.refl _ _)
                  ·
                   intro w278 vq278 hB278 hH278
                   have hS278 := hS196.below hB278
                   refine W_not rfl rfl ?_
                   refine W_nil ?_
                   exact N_step rfl rfl (Below.refl _ _)
                  ·
                   intro w279 vq279 hB279 hH279
                   have hS279 := hS196.below hB279
                   refine W_move rfl rfl ?_
                   refine W_nil ?_
                   exact N_step rfl (congrArg Value.bool hb211) (Below.refl _ _)
                  ·
                   intro w280 vq280 hB280 hH280
                   have hS280 := hS196.below hB280
                   refine W_guard_no rfl rfl rfl rfl rfl ?_
                   refine W_nil ?_
                   exact N_step rfl rfl (Below.refl _ _)
                  ·
                   intro w281 vq281 hB281 hH281
                   have hS281 := hS196.below hB281
                   refine W_guard_no rfl rfl rfl rfl rfl ?_
                   refine W_nil ?_
                   exact N_step rfl rfl (Below.refl _ _)
                  ·
                   intro w282 vq282 hB282 hH282
                   have hS282 := hS196.below hB282
                   refine W_guard_no rfl rfl rfl rfl rfl ?_
                   refine W_nil ?_
                   exact N_step rfl rfl (Below.refl _ _)
                  ·
                   intro w283 vq283 hB283 hH283
                   have hS283 := hS196.below hB283
                   refine W_guard_no rfl rfl rfl rfl rfl ?_
                   refine W_nil ?_
                   exact N_step rfl rfl (Below.refl _ _)
                  ·
                   intro w284 vq284 hB284 hH284
                   have hS284 := hS196.below hB284
                   refine W_guard_no rfl rfl rfl rfl rfl ?_
                   refine W_nil ?_
                   exact N_step rfl rfl (Below.refl _ _)
                  ·
                   intro w285 vq285 hB285 hH285
                   have hS285 := hS196.below hB285
                   refine W_pick_f rfl rfl rfl ?_
                   refine W_nil ?_
                   exact N_step rfl rfl (Below.refl _ _)
                  ·
                   intro w286 vq286 hB286 hH286
                   have hS286 := hS196.below hB286
                   refine W_move rfl rfl ?_
                   refine W_nil ?_
                   exact N_step rfl rfl (Below.refl _ _)
                  ·
                   intro w287 vq287 hB287 hH287
                   have hS287 := hS196.below hB287
                   refine W_guard_no rfl rfl rfl rfl rfl ?_
                   refine W_nil ?_
                   exact N_step rfl rfl (Below.refl _ _)
                  ·
                   intro w288 vq288 hB288 hH288
                   have hS288 := hS196.below hB288
                   refine W_guard_no rfl rfl rfl rfl rfl ?_
                   refine W_nil ?_
                   exact N_step rfl rfl (Below.refl _ _)
                  ·
                   intro w289 vq289 hB289 hH289
                   have hS289 := hS196.below hB289
                   refine W_guard_no rfl rfl rfl rfl rfl ?_
                   refine W_nil ?_
                   exact N_step rfl rfl (Below.refl _ _)
                  ·
                   intro w290 vq290 hB290 hH290
                   have hS290 := hS196.below hB290
                   refine W_guard_no rfl rfl rfl rfl rfl ?_
                   refine W_nil ?_
                   exact N_step rfl rfl (Below.refl _ _)
                  ·
                   intro w291 vq291 hB291 hH291
                   have hS291 := hS196.below hB291
                   refine W_guard_no rfl rfl rfl rfl rfl ?_
                   refine W_nil ?_
                   exact N_step rfl rfl (Below.refl _ _)
                  ·
                   intro w292 vq292 hB292 hH292
                   have hS292 := hS196.below hB292
                   refine W_guard_no rfl rfl rfl rfl rfl ?_
                   refine W_nil ?_
                   exact N_step rfl rfl (Below.refl _ _)
                  ·
                   intro w293 vq293 hB293 hH293
                   have hS293 := hS196.below hB293
                   refine W_guard_no rfl rfl rfl rfl rfl ?_
                   refine W_nil ?_
                   exact N_step rfl rfl (Below.refl _ _)
                  ·
                   intro w294 vq294 hB294 hH294
                   have hS294 := hS196.below hB294
                   refine W_guard_no rfl rfl rfl rfl rfl ?_
                   refine W_nil ?_
                   exact N_step rfl rfl (Below.refl _ _)
                  ·
                   intro w295 vq295 hB295 hH295
                   have hS295 := hS196.below hB295
                   refine W_guard_no rfl rfl rfl rfl rfl ?_
                   refine W_nil ?_
                   exact N_step rfl rfl (Below.refl _ _)
                  ·
                   intro w296 vq296 hB296 hH296
                   have hS296 := hS196.below hB296
                   refine W_guard_no rfl rfl rfl rfl rfl ?_
                   refine W_nil ?_
                   exact N_step rfl rfl (Below.refl _ _)
                  ·
                   intro w297 vq297 hB297 hH297
                   have hS297 := hS196.below hB297
                   refine W_guard_no rfl rfl rfl rfl rfl ?_
                   refine W_nil ?_
                   exact N_step rfl rfl (Below.refl _ _)
                 intro w298 vq298 hB298 hH298
                 have hS298 := hS196.below hB298
                 refine W_pick_f rfl rfl rfl ?_
                 refine W_nil ?_
                 exact N_join _ ⟨rfl, F196, (Frz.le.refl _), hS298⟩ ⟨rfl, rfl, rfl, rfl, rfl, rfl, rfl, rfl, rfl, rfl, (look_bool rfl (by first | rfl | (rw [hb211]; first | done | rfl) | simp [hb211])), trivial⟩
               rintro E w210 ⟨rfl, F210, le210, hS210⟩
               refine N_code ?_
               refine C_cond rfl (fun hc299 => ?_) (fun hc299 => ?_)
               ·
                rw [if_t hc299] at H
                refine C_region ?_
                refine W_move rfl rfl ?_
                refine W_move rfl rfl ?_
                refine W_assign rfl rfl ?_
                refine W_assign rfl rfl ?_
                refine W_nil ?_
                refine N_block ?_
                exact N_join _ ⟨i183, i194, H, ⟨F210, rfl, le210, hS210⟩⟩ ⟨rfl, rfl, rfl, rfl, rfl, rfl, rfl, rfl, rfl, rfl, trivial⟩
               ·
                rw [if_f hc299] at H
                refine C_skip ?_
                refine N_block ?_
                exact N_join _ ⟨i192, i193, H, ⟨F210, rfl, le210, hS210⟩⟩ ⟨rfl, rfl, rfl, rfl, rfl, rfl, rfl, rfl, rfl, rfl, trivial⟩
              ·
               rintro E w199 ⟨i200, i201, H, F199, rfl, le199, hS199⟩
               dsimp only [cellarerref20_Drives.k12] at H
               refine C_region ?_
               refine W_move rfl rfl ?_
               refine W_add rfl rfl rfl rfl ?_
               refine W_assign rfl rfl ?_
               refine W_nil ?_
               exact N_againM (i200, i201, wr (i194 + 1)) _ H ⟨F199, rfl, ((le191.trans le196).trans le199), hS199⟩ ⟨rfl, rfl, rfl, rfl, rfl, rfl, rfl, rfl, rfl, rfl, trivial⟩
             ·
              rw [if_f hc198] at H
              refine C_exit _ rfl ?_
              refine N_block ?_
              exact N_join _ ⟨i192, i193, H, ⟨F196, rfl, (le191.trans le196), hS196⟩⟩ ⟨rfl, rfl, rfl, rfl, rfl, rfl, rfl, rfl, rfl, trivial⟩
           ·
            rintro E w188 ⟨i189, i190, H, F188, rfl, le188, hS188⟩
            dsimp only [cellarerref20_Drives.k10] at H
            refine C_region ?_
            refine W_move rfl rfl ?_
            refine W_add rfl rfl rfl rfl ?_
            refine W_assign rfl rfl ?_
            refine W_nil ?_
            exact N_againM (i189, i190, wr (i183 + 1)) _ H ⟨F188, rfl, ((le180.trans le185).trans le188), hS188⟩ ⟨rfl, rfl, rfl, rfl, rfl, rfl, rfl, rfl, rfl, trivial⟩
          ·
           rw [if_f hc187] at H
           refine C_exit _ rfl ?_
           exact N_join _ ⟨i181, i182, H, ⟨F185, rfl, (le180.trans le185), hS185⟩⟩ ⟨rfl, rfl, rfl, rfl, rfl, rfl, rfl, rfl, trivial⟩
        ·
         rintro E w28 ⟨i29, i30, H, F28, rfl, le28, hS28⟩
         dsimp only [cellarerref20_Drives.k5] at H
         refine C_seq ?_
         refine C_seq ?_
         refine C_region ?_
         refine W_move rfl rfl ?_
         refine W_geq rfl rfl rfl ?_
         refine W_nil ?_
         refine N_code ?_
         refine C_cond rfl (fun hc31 => ?_) (fun hc31 => ?_)
         ·
          rw [if_t hc31] at H
          refine C_seq ?_
          obtain ⟨x32, hx32, H⟩ := bd_some H
          refine C_region ?_
          refine W_move rfl rfl ?_
          refine W_move rfl rfl ?_
          obtain ⟨hp34, hy34⟩ := ix_some hx32
          obtain ⟨cs34, hr34, he34⟩ := hS28.rowAt (k := 0) rfl hy34
          obtain rfl := hr34
          replace he34 : El _ _ 1 _ _ := he34
          refine W_ix rfl Go.Proofs.Try.underlying40 Ty.cells4 Ty.info4 rfl rfl he34 hp34 rfl ?_
          refine W_put (c := [.bool true]) 0 (i30.toNat) 0 x32 true rfl rfl hS28 rfl (ix_some hx32).2 (by first | rfl | (show _ = _ * 1 + _; omega)) rfl Ty.size4 (by intro y hy; simp at hy; subst hy; rfl) (by first | decide | exact Nat.le_of_ble_eq_true rfl) (by rintro cs rfl; rfl) ?_
          intro w35 hS35
          refine W_nil ?_
          refine N_code ?_
          refine C_seq ?_
          obtain ⟨x37, hx37, H⟩ := bd_some H
          obtain ⟨x39, hx39, H⟩ := bd_some H
          obtain ⟨l42, hl42, H⟩ := bd_some H
          obtain ⟨hp44, hy44⟩ := ix_some hx37
          obtain ⟨cs44, hr44, he44⟩ := hS35.rowAt (k := 2) rfl hy44
          obtain rfl := hr44
          replace he44 : El _ _ 1 _ _ := he44
          obtain ⟨hp45, hy45⟩ := ix_some hx39
          obtain ⟨cs45, hr45, he45⟩ := (h1.mono ((((((le1.trans le6).trans le10).trans ler11).trans le17).trans le25).trans le28)).at_ hy45
          obtain rfl := hr45
          replace he45 : Elf _ _ 5 _ _ := he45
          apply C_draw 13 [[], [], [], [], [2, 3], [4], [], [], [6, 7], [8], [9], [1, 5, 10], [11]] [.val (u19), .val (.int .i64 i29), .val (ur11_0), .val (.int .i64 i29), .val (elp ur11_0 (i29.toNat * 1)), .val (.int .i64 x37), .val (v1), .val (.int .i64 i30), .val (elp v1 (i30.toNat * 5)), .val (elp v1 ((i30.toNat * 5) + 1)), .val (.agg (Loc.cells x39.loc).toArray), .val (.agg (Move.cells (Move.mk 2 i29 x37 x39.loc)).toArray), .pred (fun v wz => Src Move.t F28 wz v [(Move.mk 2 i29 x37 x39.loc)]) stable_src] Ty.mixed rfl rfl (by kernel_rfl) (by kernel_rfl) rfl
          ·
           refine ⟨?_, ?_, ?_, ?_, ?_, ?_, ?_, ?_, ?_, ?_, ?_, ?_, ?_, trivial⟩
           ·
            intro w46 vq46 hB46 hH46
            have hS46 := hS35.below hB46
            refine W_move rfl rfl ?_
            refine W_nil ?_
            exact N_step rfl rfl (Below.refl _ _)
           ·
            intro w47 vq47 hB47 hH47
            have hS47 := hS35.below hB47
            refine W_move rfl rfl ?_
            refine W_nil ?_
            exact N_step rfl rfl (Below.refl _ _)
           ·
            intro w48 vq48 hB48 hH48
            have hS48 := hS35.below hB48
            refine W_move rfl rfl ?_
            refine W_nil ?_
            exact N_step rfl rfl (Below.refl _ _)
           ·
            intro w49 vq49 hB49 hH49
            have hS49 := hS35.below hB49
            refine W_move rfl rfl ?_
            refine W_nil ?_
            exact N_step rfl rfl (Below.refl _ _)
           ·
            intro w50 vq50 hB50 hH50
            have hS50 := hS35.below hB50
            refine W_ix rfl Go.Proofs.Try.underlying22 Ty.cells3 Ty.info3 rfl rfl (he44.below hB50) hp44 rfl ?_
            refine W_nil ?_
            exact N_step rfl rfl (Below.refl _ _)
           ·
            intro w51 vq51 hB51 hH51
            have hS51 := hS35.below hB51
            refine W_ld1 0 rfl Ty.cell3 rfl (he44.below hB51) (by omega) rfl ?_
            refine W_nil ?_
            exact N_step rfl rfl (Below.refl _ _)
           ·
            intro w52 vq52 hB52 hH52
            have hS52 := hS35.below hB52
            refine W_move rfl rfl ?_
            refine W_nil ?_
            exact N_step rfl rfl (Below.refl _ _)
           ·
            intro w53 vq53 hB53 hH53
            have hS53 := hS35.below hB53
            refine W_move rfl rfl ?_
            refine W_nil ?_
            exact N_step rfl rfl (Below.refl _ _)
           ·
            intro w54 vq54 hB54 hH54
            have hS54 := hS35.below hB54
            refine W_ix rfl Go.Proofs.Try.underlying23 Ty.cells39 Ty.info39 rfl rfl (he45.el hS54.agree) hp45 rfl ?_
            refine W_nil ?_
            exact N_step rfl rfl (Below.refl _ _)
           ·
            intro w55 vq55 hB55 hH55
            have hS55 := hS35.below hB55
            refine W_fld 1 rfl Ty.field39_1 rfl (he45.el hS55.agree) ?_
            refine W_nil ?_
            exact N_step rfl rfl (Below.refl _ _)
           ·
            intro w56 vq56 hB56 hH56
            have hS56 := hS35.below hB56
            refine W_ldg 1 ((Loc.cells x39.loc)) rfl Ty.agg37 Ty.size37 rfl (he45.el hS56.agree) (by omega) (fun q u h => sub_at (post := []) rfl h) ?_
            refine W_nil ?_
            exact N_step rfl rfl (Below.refl _ _)
           ·
            intro w57 vq57 hB57 hH57
            have hS57 := hS35.below hB57
            refine W_build (v := .agg (Move.cells (Move.mk 2 i29 x37 x39.loc)).toArray) rfl rfl (fun _ => by kernel_rfl) ?_
            refine W_nil ?_
            exact N_step rfl rfl (Below.refl _ _)
           ·
            intro w58 vq58 hB58 hH58
            have hS58 := hS35.below hB58
            refine W_bs0 (t := Move.t) [(Move.cells (Move.mk 2 i29 x37 x39.loc))] [(Move.mk 2 i29 x37 x39.loc)] rfl Go.Proofs.Try.underlying25 Ty.cells42 rfl rfl Ty.zero42 rfl rfl ⟨rfl, trivial⟩ rfl rfl hS58.agree ?_
            intro u41 w41 hB41 hs41
            refine W_nil ?_
            exact N_step rfl hs41 hB41
          intro w59 vq59 hB59 hH59
          obtain ⟨_, _, _, _, _, _, _, _, _, _, _, _, hp59_12, _⟩ := hH59
          have hS59 := hS35.below hB59
          refine W_appM 3 rfl Go.Proofs.Try.underlying25 Ty.row42 rfl rfl rfl rfl rfl hS59 rfl hp59_12 hl42 ?_
          intro v43 w43 hS43
          refine W_assign rfl rfl ?_
          refine W_nil ?_
          refine N_code ?_
          refine C_exit _ rfl ?_
          exact N_againM (l42, (l21.set i30.toNat true), l22, l23) _ H ⟨F28, v43, rfl, ((le17.trans le25).trans le28), hS43⟩ ⟨rfl, rfl, rfl, rfl, rfl, trivial⟩
         ·
          rw [if_f hc31] at H
          refine C_skip ?_
          refine N_code ?_
          refine C_seq ?_
          refine C_region ?_
          refine W_assign rfl rfl ?_
          refine W_nil ?_
          refine N_code ?_
          refine C_seq_join (fun E wq => ∃ i61 : Int, cellarerref20_Drives.k6 x1 l18 l21 l22 l23 rec24 i26 i61 = some r ∧ ∃ (F60 : Frz), E = [(1, v1), (9, ur11_0), (10, v14), (11, v16), (12, u19), (15, .int .i64 i26), (19, .int .i64 i61)] ∧ F28.le F60 ∧ St [] w F F60 [.row tBool 4 v16 l21, .row tI 3 v14 l22, .row tI 3 ur11_0 l23, .row Move.t 42 u19 l18] wq) ?_ ?_
          ·
           refine C_seq ?_
           refine C_region ?_
           refine W_assign rfl rfl ?_
           refine W_nil ?_
           refine N_code ?_
           refine C_block ?_
           refine C_loopM (fun (s : Int × Int) E wq => ∃ (F81 : Frz), E = [(1, v1), (9, ur11_0), (10, v14), (11, v16), (12, u19), (15, .int .i64 i26), (19, .int .i64 s.1), (20, .int .i64 s.2)] ∧ F28.le F81 ∧ St [] w F F81 [.row tBool 4 v16 l21, .row tI 3 v14 l22, .row tI 3 ur11_0 l23, .row Move.t 42 u19 l18] wq) H ?_ ?_
           ·
            exact ⟨_, ⟨F28, rfl, (Frz.le.refl _), hS28⟩, ⟨rfl, rfl, rfl, rfl, rfl, rfl, rfl, rfl, trivial⟩⟩
           ·
            rintro rec84 ⟨i82, i83⟩ E w81 hI H
            try dsimp only at hI
            obtain ⟨F81, rfl, le81, hS81⟩ := hI
            dsimp only [cellarerref20_Drives.l7] at H
            refine C_seq ?_
            refine C_seq ?_
            refine C_region ?_
            refine W_move rfl rfl ?_
            refine W_move rfl rfl ?_
            refine W_lenv rfl Go.Proofs.Try.underlying22 rfl (hS81.rowLn (k := 2) rfl) ?_
            refine W_lss rfl rfl rfl ?_
            refine W_nil ?_
            refine N_code ?_
            refine C_cond rfl (fun hc85 => ?_) (fun hc85 => ?_)
            ·
             rw [if_t hc85] at H
             refine C_skip ?_
             refine N_code ?_
             refine C_seq_join (fun E wq => ∃ i87 : Int, cellarerref20_Drives.k8 i83 rec84 i87 = some r ∧ ∃ (F86 : Frz), E = [(1, v1), (9, ur11_0), (10, v14), (11, v16), (12, u19), (15, .int .i64 i26), (19, .int .i64 i87), (20, .int .i64 i83)] ∧ F81.le F86 ∧ St [] w F F86 [.row tBool 4 v16 l21, .row tI 3 v14 l22, .row tI 3 ur11_0 l23, .row Move.t 42 u19 l18] wq) ?_ ?_
             ·
              refine C_block ?_
              refine C_seq ?_
              obtain ⟨x88, hx88, H⟩ := bd_some H
              obtain ⟨x90, hx90, H⟩ := bd_some H
              obtain ⟨x92, hx92, H⟩ := bd_some H
              obtain ⟨x94, hx94, H⟩ := bd_some H
              refine C_join (fun E wq => E = [(1, v1), (9, ur11_0), (10, v14), (11, v16), (12, u19), (15, .int .i64 i26), (19, .int .i64 i82), (20, .int .i64 i83), (193, .bool (decide (0 ≤ x88) && (decide (x90 < 0) || decide (x92 < x94))))] ∧ ∃ F96 : Frz, F81.le F96 ∧ St [] w F F96 [.row tBool 4 v16 l21, .row tI 3 v14 l22, .row tI 3 ur11_0 l23, .row Move.t 42 u19 l18] wq) ?_ ?_
              ·
               rcases Bool.eq_false_or_eq_true (decide (0 ≤ x88)) with hb97 | hb97
               ·
                rcases Bool.eq_false_or_eq_true (decide (x90 < 0)) with hb98 | hb98
                ·
                 obtain ⟨hp99, hy99⟩ := ix_some hx88
                 obtain ⟨cs99, hr99, he99⟩ := hS81.rowAt (k := 2) rfl hy99
                 obtain rfl := hr99
                 replace he99 : El _ _ 1 _ _ := he99
                 have hy100 := hx90
                 rw [only_t hb97] at hy100
                 obtain ⟨hp101, hy101⟩ := ix_some hy100
                 obtain ⟨cs101, hr101, he101⟩ := hS81.rowAt (k := 2) rfl hy101
                 obtain rfl := hr101
                 replace he101 : El _ _ 1 _ _ := he101
                 apply C_draw 22 [[], [], [0, 1], [2], [3], [4], [5], [5], [6, 7, 5], [8, 5], [9, 5], [10, 5], [11], [11], [12, 13, 11], [14, 11], [11], [11], [16, 17, 11], [18, 11], [15, 19, 11], [11, 20, 5]] [.val (ur11_0), .val (.int .i64 i82), .val (elp ur11_0 (i82.toNat * 1)), .val (.int .i64 x88), .val (.bool (decide (0 ≤ x88))), .val (.bool true), .val (ur11_0), .val (.int .i64 i83), .val (elp ur11_0 (i83.toNat * 1)), .val (.int .i64 x90), .val (.bool (decide (x90 < 0))), .val (.bool true), .val undef, .val undef, .val undef, .val undef, .val undef, .val undef, .val undef, .val undef, .val undef, .val (.bool true)] Ty.mixed rfl rfl (by kernel_rfl) (by kernel_rfl) rfl
                 ·
                  refine ⟨?_, ?_, ?_, ?_, ?_, ?_, ?_, ?_, ?_, ?_, ?_, ?_, ?_, ?_, ?_, ?_, ?_, ?_, ?_, ?_, ?_, ?_, trivial⟩
                  ·
                   intro w102 vq102 hB102 hH102
                   have hS102 := hS81.below hB102
                   refine W_move rfl rfl ?_
                   refine W_nil ?_
                   exact N_step rfl rfl (Below.refl _ _)
                  ·
                   intro w103 vq103 hB103 hH103
                   have hS103 := hS81.below hB103
                   refine W_move rfl rfl ?_
                   refine W_nil ?_
                   exact N_step rfl rfl (Below.refl _ _)
                  ·
                   intro w104 vq104 hB104 hH104
                   have hS104 := hS81.below hB104
                   refine W_ix rfl Go.Proofs.Try.underlying22 Ty.cells3 Ty.info3 rfl rfl (he99.below hB104) hp99 rfl ?_
                   refine W_nil ?_
                   exact N_step rfl rfl (Below.refl _ _)
                  ·
                   intro w105 vq105 hB105 hH105
                   have hS105 := hS81.below hB105
                   refine W_ld1 0 rfl Ty.cell3 rfl (he99.below hB105) (by omega) rfl ?_
                   refine W_nil ?_
                   exact N_step rfl rfl (Below.refl _ _)
                  ·
                   intro w106 vq106 hB106 hH106
                   have hS106 := hS81.below hB106
                   refine W_geq rfl rfl rfl ?_
                   refine W_nil ?_
                   exact N_step rfl rfl (Below.refl _ _)
                  ·
                   intro w107 vq107 hB107 hH107
                   have hS107 := hS81.below hB107
                   refine W_move rfl rfl ?_
                   refine W_nil ?_
                   exact N_step rfl (congrArg Value.bool hb97) (Below.refl _ _)
                  ·
                   intro w108 vq108 hB108 hH108
                   have hS108 := hS81.below hB108
                   refine W_guard_yes rfl ?_
                   refine W_move rfl rfl ?_
                   refine W_nil ?_
                   exact N_step rfl rfl (Below.refl _ _)
                  ·
                   intro w109 vq109 hB109 hH109
                   have hS109 := hS81.below hB109
                   refine W_guard_yes rfl ?_
                   refine W_move rfl rfl ?_
                   refine W_nil ?_
                   exact N_step rfl rfl (Below.refl _ _)
                  ·
                   intro w110 vq110 hB110 hH110
                   have hS110 := hS81.below hB110
                   refine W_guard_yes rfl ?_
                   refine W_ix rfl Go.Proofs.Try.underlying22 Ty.cells3 Ty.info3 rfl rfl (he101.below hB110) hp101 rfl ?_
                   refine W_nil ?_
                   exact N_step rfl rfl (Below.refl _ _)
                  ·
                   intro w111 vq111 hB111 hH111
                   have hS111 := hS81.below hB111
                   refine W_guard_yes rfl ?_
                   refine W_ld1 0 rfl Ty.cell3 rfl (he101.below hB111) (by omega) rfl ?_
                   refine W_nil ?_
                   exact N_step rfl rfl (Below.refl _ _)
                  ·
                   intro w112 vq112 hB112 hH112
                   have hS112 := hS81.below hB112
                   refine W_guard_yes rfl ?_
                   refine W_lss rfl rfl rfl ?_
                   refine W_nil ?_
                   exact N_step rfl rfl (Below.refl _ _)
                  ·
                   intro w113 vq113 hB113 hH113
                   have hS113 := hS81.below hB113
                   refine W_guard_yes rfl ?_
                   refine W_move rfl rfl ?_
                   refine W_nil ?_
                   exact N_step rfl (congrArg Value.bool hb98) (Below.refl _ _)
                  ·
                   intro w114 vq114 hB114 hH114
                   have hS114 := hS81.below hB114
                   refine W_guard_no rfl rfl rfl rfl rfl ?_
                   refine W_nil ?_
                   exact N_step rfl rfl (Below.refl _ _)
                  ·
                   intro w115 vq115 hB115 hH115
                   have hS115 := hS81.below hB115
                   refine W_guard_no rfl rfl rfl rfl rfl ?_
                   refine W_nil ?_
                   exact N_step rfl rfl (Below.refl _ _)
                  ·
                   intro w116 vq116 hB116 hH116
                   have hS116 := hS81.below hB116
                   refine W_guard_no rfl rfl rfl rfl rfl ?_
                   refine W_nil ?_
                   exact N_step rfl rfl (Below.refl _ _)
                  ·
                   intro w117 vq117 hB117 hH117
                   have hS117 := hS81.below hB117
                   refine W_guard_no rfl rfl rfl rfl rfl ?_
                   refine W_nil ?_
                   exact N_step rfl rfl (Below.refl _ _)
                  ·
                   intro w118 vq118 hB118 hH118
                   have hS118 := hS81.below hB118
                   refine W_guard_no rfl rfl rfl rfl rfl ?_
                   refine W_nil ?_
                   exact N_step rfl rfl (Below.refl _ _)
                  ·
                   intro w119 vq119 hB119 hH119
                   have hS119 := hS81.below hB119
                   refine W_guard_no rfl rfl rfl rfl rfl ?_
                   refine W_nil ?_
                   exact N_step rfl rfl (Below.refl _ _)
                  ·
                   intro w120 vq120 hB120 hH120
                   have hS120 := hS81.below hB120
                   refine W_guard_no rfl rfl rfl rfl rfl ?_
                   refine W_nil ?_
                   exact N_step rfl rfl (Below.refl _ _)
                  ·
                   intro w121 vq121 hB121 hH121
                   have hS121 := hS81.below hB121
                   refine W_guard_no rfl rfl rfl rfl rfl ?_
                   refine W_nil ?_
                   exact N_step rfl rfl (Below.refl _ _)
                  ·
                   intro w122 vq122 hB122 hH122
                   have hS122 := hS81.below hB122
                   refine W_guard_no rfl rfl rfl rfl rfl ?_
                   refine W_nil ?_
                   exact N_step rfl rfl (Below.refl _ _)
                  ·
                   intro w123 vq123 hB123 hH123
                   have hS123 := hS81.below hB123
                   refine W_guard_yes rfl ?_
                   refine W_pick_t rfl rfl rfl ?_
                   refine W_nil ?_
                   exact N_step rfl rfl (Below.refl _ _)
                 intro w124 vq124 hB124 hH124
                 have hS124 := hS81.below hB124
                 refine W_pick_t rfl rfl rfl ?_
                 refine W_nil ?_
                 exact N_join _ ⟨rfl, F81, (Frz.le.refl _), hS124⟩ ⟨rfl, rfl, rfl, rfl, rfl, rfl, rfl, rfl, (look_bool rfl (by first | rfl | (rw [hb97, hb98]; first | done | rfl) | simp [hb97, hb98])), trivial⟩
                ·
                 obtain ⟨hp125, hy125⟩ := ix_some hx88
                 obtain ⟨cs125, hr125, he125⟩ := hS81.rowAt (k := 2) rfl hy125
                 obtain rfl := hr125
                 replace he125 : El _ _ 1 _ _ := he125
                 have hy126 := hx90
                 rw [only_t hb97] at hy126
                 obtain ⟨hp127, hy127⟩ := ix_some hy126
                 obtain ⟨cs127, hr127, he127⟩ := hS81.rowAt (k := 2) rfl hy127
                 obtain rfl := hr127
                 replace he127 : El _ _ 1 _ _ := he127
                 have hy128 := hx92
                 rw [only_t (by first | rfl | (rw [hb97, hb98]; first | done | rfl) | simp [hb97, hb98])] at hy128
                 obtain ⟨hp129, hy129⟩ := ix_some hy128
                 obtain ⟨cs129, hr129, he129⟩ := hS81.rowAt (k := 1) rfl hy129
                 obtain rfl := hr129
                 replace he129 : El _ _ 1 _ _ := he129
                 have hy130 := hx94
                 rw [only_t (by first | rfl | (rw [hb97, hb98]; first | done | rfl) | simp [hb97, hb98])] at hy130
                 obtain ⟨hp131, hy131⟩ := ix_some hy130
                 obtain ⟨cs131, hr131, he131⟩ := hS81.rowAt (k := 1) rfl hy131
                 obtain rfl := hr131
                 replace he131 : El _ _ 1 _ _ := he131
                 apply C_draw 22 [[], [], [0, 1], [2], [3], [4], [5], [5], [6, 7, 5], [8, 5], [9, 5], [10, 5], [11], [11], [12, 13, 11], [14, 11], [11], [11], [16, 17, 11], [18, 11], [15, 19, 11], [11, 20, 5]] [.val (ur11_0), .val (.int .i64 i82), .val (elp ur11_0 (i82.toNat * 1)), .val (.int .i64 x88), .val (.bool (decide (0 ≤ x88))), .val (.bool true), .val (ur11_0), .val (.int .i64 i83), .val (elp ur11_0 (i83.toNat * 1)), .val (.int .i64 x90), .val (.bool (decide (x90 < 0))), .val (.bool false), .val (v14), .val (.int .i64 i83), .val (elp v14 (i83.toNat * 1)), .val (.int .i64 x92), .val (v14), .val (.int .i64 i82), .val (elp v14 (i82.toNat * 1)), .val (.int .i64 x94), .val (.bool (decide (x92 < x94))), .val (.bool (decide (x92 < x94)))] Ty.mixed rfl rfl (by kernel_rfl) (by kernel_rfl) rfl
                 ·
                  refine ⟨?_, ?_, ?_, ?_, ?_, ?_, ?_, ?_, ?_, ?_, ?_, ?_, ?_, ?_, ?_, ?_, ?_, ?_, ?_, ?_, ?_, ?_, trivial⟩
                  ·
                   intro w132 vq132 hB132 hH132
                   have hS132 := hS81.below hB132
                   refine W_move rfl rfl ?_
                   refine W_nil ?_
                   exact N_step rfl rfl (Below.refl _ _)
                  ·
                   intro w133 vq133 hB133 hH133
                   have hS133 := hS81.below hB133
                   refine W_move rfl rfl ?_
                   refine W_nil ?_
                   exact N_step rfl rfl (Below.refl _ _)
                  ·
                   intro w134 vq134 hB134 hH134
                   have hS134 := hS81.below hB134
                   refine W_ix rfl Go.Proofs.Try.underlying22 Ty.cells3 Ty.info3 rfl rfl (he125.below hB134) hp125 rfl ?_
                   refine W_nil ?_
                   exact N_step rfl rfl (Below.refl _ _)
                  ·
                   intro w135 vq135 hB135 hH135
                   have hS135 := hS81.below hB135
                   refine W_ld1 0 rfl Ty.cell3 rfl (he125.below hB135) (by omega) rfl ?_
                   refine W_nil ?_
                   exact N_step rfl rfl (Below.refl _ _)
                  ·
                   intro w136 vq136 hB136 hH136
                   have hS136 := hS81.below hB136
                   refine W_geq rfl rfl rfl ?_
                   refine W_nil ?_
                   exact N_step rfl rfl (Below.refl _ _)
                  ·
                   intro w137 vq137 hB137 hH137
                   have hS137 := hS81.below hB137
                   refine W_move rfl rfl ?_
                   refine W_nil ?_
                   exact N_step rfl (congrArg Value.bool hb97) (Below.refl _ _)
                  ·
                   intro w138 vq138 hB138 hH138
                   have hS138 := hS81.below hB138
                   refine W_guard_yes rfl ?_
                   refine W_move rfl rfl ?_
                   refine W_nil ?_
                   exact N_step rfl rfl (Below.refl _ _)
                  ·
                   intro w139 vq139 hB139 hH139
                   have hS139 := hS81.below hB139
                   refine W_guard_yes rfl ?_
                   refine W_move rfl rfl ?_
                   refine W_nil ?_
                   exact N_step rfl rfl (Below.refl _ _)
                  ·
                   intro w140 vq140 hB140 hH140
                   have hS140 := hS81.below hB140
                   refine W_guard_yes rfl ?_
                   refine W_ix rfl Go.Proofs.Try.underlying22 Ty.cells3 Ty.info3 rfl rfl (he127.below hB140) hp127 rfl ?_
                   refine W_nil ?_
                   exact N_step rfl rfl (Below.refl _ _)
                  ·
                   intro w141 vq141 hB141 hH141
                   have hS141 := hS81.below hB141
                   refine W_guard_yes rfl ?_
                   refine W_ld1 0 rfl Ty.cell3 rfl (he127.below hB141) (by omega) rfl ?_
                   refine W_nil ?_
                   exact N_step rfl rfl (Below.refl _ _)
                  ·
                   intro w142 vq142 hB142 hH142
                   have hS142 := hS81.below hB142
                   refine W_guard_yes rfl ?_
                   refine W_lss rfl rfl rfl ?_
                   refine W_nil ?_
                   exact N_step rfl rfl (Below.refl _ _)
                  ·
                   intro w143 vq143 hB143 hH143
                   have hS143 := hS81.below hB143
                   refine W_guard_yes rfl ?_
                   refine W_move rfl rfl ?_
                   refine W_nil ?_
                   exact N_step rfl (congrArg Value.bool hb98) (Below.refl _ _)
                  ·
                   intro w144 vq144 hB144 hH144
                   have hS144 := hS81.below hB144
                   refine W_guard_yes rfl ?_
                   refine W_move rfl rfl ?_
                   refine W_nil ?_
                   exact N_step rfl rfl (Below.refl _ _)
                  ·
                   intro w145 vq145 hB145 hH145
                   have hS145 := hS81.below hB145
                   refine W_guard_yes rfl ?_
                   refine W_move rfl rfl ?_
                   refine W_nil ?_
                   exact N_step rfl rfl (Below.refl _ _)
                  ·
                   intro w146 vq146 hB146 hH146
                   have hS146 := hS81.below hB146
                   refine W_guard_yes rfl ?_
                   refine W_ix rfl Go.Proofs.Try.underlying22 Ty.cells3 Ty.info3 rfl rfl (he129.below hB146) hp129 rfl ?_
                   refine W_nil ?_
                   exact N_step rfl rfl (Below.refl _ _)
                  ·
                   intro w147 vq147 hB147 hH147
                   have hS147 := hS81.below hB147
                   refine W_guard_yes rfl ?_
                   refine W_ld1 0 rfl Ty.cell3 rfl (he129.below hB147) (by omega) rfl ?_
                   refine W_nil ?_
                   exact N_step rfl rfl (Below.refl _ _)
                  ·
                   intro w148 vq148 hB148 hH148
                   have hS148 := hS81.below hB148
                   refine W_guard_yes rfl ?_
                   refine W_move rfl rfl ?_
                   refine W_nil ?_
                   exact N_step rfl rfl (Below.refl _ _)
                  ·
                   intro w149 vq149 hB149 hH149
                   have hS149 := hS81.below hB149
                   refine W_guard_yes rfl ?_
                   refine W_move rfl rfl ?_
                   refine W_nil ?_
                   exact N_step rfl rfl (Below.refl _ _)
                  ·
                   intro w150 vq150 hB150 hH150
                   have hS150 := hS81.below hB150
                   refine W_guard_yes rfl ?_
                   refine W_ix rfl Go.Proofs.Try.underlying22 Ty.cells3 Ty.info3 rfl rfl (he131.below hB150) hp131 rfl ?_
                   refine W_nil ?_
                   exact N_step rfl rfl (Below.refl _ _)
                  ·
                   intro w151 vq151 hB151 hH151
                   have hS151 := hS81.below hB151
                   refine W_guard_yes rfl ?_
                   refine W_ld1 0 rfl Ty.cell3 rfl (he131.below hB151) (by omega) rfl ?_
                   refine W_nil ?_
                   exact N_step rfl rfl (Below.refl _ _)
                  ·
                   intro w152 vq152 hB152 hH152
                   have hS152 := hS81.below hB152
                   refine W_guard_yes rfl ?_
                   refine W_lss rfl rfl rfl ?_
                   refine W_nil ?_
                   exact N_step rfl rfl (Below.refl _ _)
                  ·
                   intro w153 vq153 hB153 hH153
                   have hS153 := hS81.below hB153
                   refine W_guard_yes rfl ?_
                   refine W_pick_f rfl rfl rfl ?_
                   refine W_nil ?_
                   exact N_step rfl rfl (Below.refl _ _)
                 intro w154 vq154 hB154 hH154
                 have hS154 := hS81.below hB154
                 refine W_pick_t rfl rfl rfl ?_
                 refine W_nil ?_
                 exact N_join _ ⟨rfl, F81, (Frz.le.refl _), hS154⟩ ⟨rfl, rfl, rfl, rfl, rfl, rfl, rfl, rfl, (look_bool rfl (by first | rfl | (rw [hb97, hb98]; first | done | rfl) | simp [hb97, hb98])), trivial⟩
               ·
                obtain ⟨hp155, hy155⟩ := ix_some hx88
                obtain ⟨cs155, hr155, he155⟩ := hS81.rowAt (k := 2) rfl hy155
                obtain rfl := hr155
                replace he155 : El _ _ 1 _ _ := he155
                apply C_draw 22 [[], [], [0, 1], [2], [3], [4], [5], [5], [6, 7, 5], [8, 5], [9, 5], [10, 5], [11], [11], [12, 13, 11], [14, 11], [11], [11], [16, 17, 11], [18, 11], [15, 19, 11], [11, 20, 5]] [.val (ur11_0), .val (.int .i64 i82), .val (elp ur11_0 (i82.toNat * 1)), .val (.int .i64 x88), .val (.bool (decide (0 ≤ x88))), .val (.bool false), .val undef, .val undef, .val undef, .val undef, .val undef, .val undef, .val undef, .val undef, .val undef, .val undef, .val undef, .val undef, .val undef, .val undef, .val undef, .val undef] Ty.mixed rfl rfl (by kernel_rfl) (by kernel_rfl) rfl
                ·
                 refine ⟨?_, ?_, ?_, ?_, ?_, ?_, ?_, ?_, ?_, ?_, ?_, ?_, ?_, ?_, ?_, ?_, ?_, ?_, ?_, ?_, ?_, ?_, trivial⟩
                 ·
                  intro w156 vq156 hB156 hH156
                  have hS156 := hS81.below hB156
                  refine W_move rfl rfl ?_
                  refine W_nil ?_
                  exact N_step rfl rfl (Below.refl _ _)
                 ·
                  intro w157 vq157 hB157 hH157
                  have hS157 := hS81.below hB157
                  refine W_move rfl rfl ?_
                  refine W_nil ?_
                  exact N_step rfl rfl (Below.refl _ _)
                 ·
                  intro w158 vq158 hB158 hH158
                  have hS158 := hS81.below hB158
                  refine W_ix rfl Go.Proofs.Try.underlying22 Ty.cells3 Ty.info3 rfl rfl (he155.below hB158) hp155 rfl ?_
                  refine W_nil ?_
                  exact N_step rfl rfl (Below.refl _ _)
                 ·
                  intro w159 vq159 hB159 hH159
                  have hS159 := hS81.below hB159
                  refine W_ld1 0 rfl Ty.cell3 rfl (he155.below hB159) (by omega) rfl ?_
                  refine W_nil ?_
                  exact N_step rfl rfl (Below.refl _ _)
                 ·
                  intro w160 vq160 hB160 hH160
                  have hS160 := hS81.below hB160
                  refine W_geq rfl rfl rfl ?_
                  refine W_nil ?_
                  exact N_step rfl rfl (Below.refl _ _)
                 ·
                  intro w161 vq161 hB161 hH161
                  have hS161 := hS81.below hB161
                  refine W_move rfl rfl ?_
                  refine W_nil ?_
                  exact N_step rfl (congrArg Value.bool hb97) (Below.refl _ _)
                 ·
                  intro w162 vq162 hB162 hH162
                  have hS162 := hS81.below hB162
                  refine W_guard_no rfl rfl rfl rfl rfl ?_
                  refine W_nil ?_
                  exact N_step rfl rfl (Below.refl _ _)
                 ·
                  intro w163 vq163 hB163 hH163
                  have hS163 := hS81.below hB163
                  refine W_guard_no rfl rfl rfl rfl rfl ?_
                  refine W_nil ?_
                  exact N_step rfl rfl (Below.refl _ _)
                 ·
                  intro w164 vq164 hB164 hH164
                  have hS164 := hS81.below hB164
                  refine W_guard_no rfl rfl rfl rfl rfl ?_
                  refine W_nil ?_
                  exact N_step rfl rfl (Below.refl _ _)
                 ·
                  intro w165 vq165 hB165 hH165
                  have hS165 := hS81.below hB165
                  refine W_guard_no rfl rfl rfl rfl rfl ?_
                  refine W_nil ?_
                  exact N_step rfl rfl (Below.refl _ _)
                 ·
                  intro w166 vq166 hB166 hH166
                  have hS166 := hS81.below hB166
                  refine W_guard_no rfl rfl rfl rfl rfl ?_
                  refine W_nil ?_
                  exact N_step rfl rfl (Below.refl _ _)
                 ·
                  intro w167 vq167 hB167 hH167
                  have hS167 := hS81.below hB167
                  refine W_guard_no rfl rfl rfl rfl rfl ?_
                  refine W_nil ?_
                  exact N_step rfl rfl (Below.refl _ _)
                 ·
                  intro w168 vq168 hB168 hH168
                  have hS168 := hS81.below hB168
                  refine W_guard_un rfl rfl rfl rfl ?_
                  refine W_nil ?_
                  exact N_step rfl rfl (Below.refl _ _)
                 ·
                  intro w169 vq169 hB169 hH169
                  have hS169 := hS81.below hB169
                  refine W_guard_un rfl rfl rfl rfl ?_
                  refine W_nil ?_
                  exact N_step rfl rfl (Below.refl _ _)
                 ·
                  intro w170 vq170 hB170 hH170
                  have hS170 := hS81.below hB170
                  refine W_guard_un rfl rfl rfl rfl ?_
                  refine W_nil ?_
                  exact N_step rfl rfl (Below.refl _ _)
                 ·
                  intro w171 vq171 hB171 hH171
                  have hS171 := hS81.below hB171
                  refine W_guard_un rfl rfl rfl rfl ?_
                  refine W_nil ?_
                  exact N_step rfl rfl (Below.refl _ _)
                 ·
                  intro w172 vq172 hB172 hH172
                  have hS172 := hS81.below hB172
                  refine W_guard_un rfl rfl rfl rfl ?_
                  refine W_nil ?_
                  exact N_step rfl rfl (Below.refl _ _)
                 ·
                  intro w173 vq173 hB173 hH173
                  have hS173 := hS81.below hB173
                  refine W_guard_un rfl rfl rfl rfl ?_
                  refine W_nil ?_
                  exact N_step rfl rfl (Below.refl _ _)
                 ·
                  intro w174 vq174 hB174 hH174
                  have hS174 := hS81.below hB174
                  refine W_guard_un rfl rfl rfl rfl ?_
                  refine W_nil ?_
                  exact N_step rfl rfl (Below.refl _ _)
                 ·
                  intro w175 vq175 hB175 hH175
                  have hS175 := hS81.below hB175
                  refine W_guard_un rfl rfl rfl rfl ?_
                  refine W_nil ?_
                  exact N_step rfl rfl (Below.refl _ _)
                 ·
                  intro w176 vq176 hB176 hH176
                  have hS176 := hS81.below hB176
                  refine W_guard_un rfl rfl rfl rfl ?_
                  refine W_nil ?_
                  exact N_step rfl rfl (Below.refl _ _)
                 ·
                  intro w177 vq177 hB177 hH177
                  have hS177 := hS81.below hB177
                  refine W_guard_no rfl rfl rfl rfl rfl ?_
                  refine W_nil ?_
                  exact N_step rfl rfl (Below.refl _ _)
                intro w178 vq178 hB178 hH178
                have hS178 := hS81.below hB178
                refine W_pick_f rfl rfl rfl ?_
                refine W_nil ?_
                exact N_join _ ⟨rfl, F81, (Frz.le.refl _), hS178⟩ ⟨rfl, rfl, rfl, rfl, rfl, rfl, rfl, rfl, (look_bool rfl (by first | rfl | (rw [hb97]; first | done | rfl) | simp [hb97])), trivial⟩
              rintro E w96 ⟨rfl, F96, le96, hS96⟩
              refine N_code ?_
              refine C_cond rfl (fun hc179 => ?_) (fun hc179 => ?_)
              ·
               rw [if_t hc179] at H
               refine C_region ?_
               refine W_move rfl rfl ?_
               refine W_assign rfl rfl ?_
               refine W_nil ?_
               refine N_block ?_
               exact N_join _ ⟨i83, H, ⟨F96, rfl, le96, hS96⟩⟩ ⟨rfl, rfl, rfl, rfl, rfl, rfl, rfl, rfl, trivial⟩
              ·
               rw [if_f hc179] at H
               refine C_skip ?_
               refine N_block ?_
               exact N_join _ ⟨i82, H, ⟨F96, rfl, le96, hS96⟩⟩ ⟨rfl, rfl, rfl, rfl, rfl, rfl, rfl, rfl, trivial⟩
             ·
              rintro E w86 ⟨i87, H, F86, rfl, le86, hS86⟩
              dsimp only [cellarerref20_Drives.k8] at H
              refine C_region ?_
              refine W_move rfl rfl ?_
              refine W_add rfl rfl rfl rfl ?_
              refine W_assign rfl rfl ?_
              refine W_nil ?_
              exact N_againM (i87, wr (i83 + 1)) _ H ⟨F86, rfl, (le81.trans le86), hS86⟩ ⟨rfl, rfl, rfl, rfl, rfl, rfl, rfl, rfl, trivial⟩
            ·
             rw [if_f hc85] at H
             refine C_exit _ rfl ?_
             exact N_join _ ⟨i82, H, ⟨F81, rfl, le81, hS81⟩⟩ ⟨rfl, rfl, rfl, rfl, rfl, rfl, rfl, trivial⟩
          ·
           rintro E w60 ⟨i61, H, F60, rfl, le60, hS60⟩
           dsimp only [cellarerref20_Drives.k6] at H
           refine C_seq ?_
           obtain ⟨x62, hx62, H⟩ := bd_some H
           obtain ⟨x64, hx64, H⟩ := bd_some H
           obtain ⟨x66, hx66, H⟩ := bd_some H
           refine C_region ?_
           refine W_move rfl rfl ?_
           refine W_move rfl rfl ?_
           refine W_move rfl rfl ?_
           refine W_move rfl rfl ?_
           refine W_move rfl rfl ?_
           refine W_move rfl rfl ?_
           obtain ⟨hp68, hy68⟩ := ix_some hx62
           obtain ⟨cs68, hr68, he68⟩ := (h1.mono (((((((le1.trans le6).trans le10).trans ler11).trans le17).trans le25).trans le28).trans le60)).at_ hy68
           obtain rfl := hr68
           replace he68 : Elf _ _ 5 _ _ := he68
           refine W_ix rfl Go.Proofs.Try.underlying23 Ty.cells39 Ty.info39 rfl rfl (he68.el hS60.agree) hp68 rfl ?_
           refine W_fld 1 rfl Ty.field39_1 rfl (he68.el hS60.agree) ?_
           refine W_fld 0 rfl Ty.field37_0 rfl (he68.el hS60.agree) ?_
           refine W_ld1 1 rfl Ty.cell3 rfl (he68.el hS60.agree) (by omega) rfl ?_
           refine W_move rfl rfl ?_
           refine W_lenv rfl Go.Proofs.Try.underlying25 rfl (hS60.rowLn (k := 3) rfl) ?_
           refine W_add rfl rfl rfl rfl ?_
           obtain ⟨hp69, hy69⟩ := ix_some hx64
           obtain ⟨cs69, hr69, he69⟩ := hS60.rowAt (k := 2) rfl hy69
           obtain rfl := hr69
           replace he69 : El _ _ 1 _ _ := he69
           refine W_ix rfl Go.Proofs.Try.underlying22 Ty.cells3 Ty.info3 rfl rfl he69 hp69 rfl ?_
           refine W_put (c := [.int .i64 x62.loc.vol]) 2 (i61.toNat) 0 x64 x62.loc.vol rfl rfl hS60 rfl (ix_some hx64).2 (by first | rfl | (show _ = _ * 1 + _; omega)) rfl Ty.size3 (by intro y hy; simp at hy; subst hy; rfl) (by first | decide | exact Nat.le_of_ble_eq_true rfl) (by rintro cs rfl; rfl) ?_
           intro w70 hS70
           obtain ⟨hp72, hy72⟩ := ix_some hx66
           obtain ⟨cs72, hr72, he72⟩ := hS70.rowAt (k := 1) rfl hy72
           obtain rfl := hr72
           replace he72 : El _ _ 1 _ _ := he72
           refine W_ix rfl Go.Proofs.Try.underlying22 Ty.cells3 Ty.info3 rfl rfl he72 hp72 rfl ?_
           refine W_put (c := [.int .i64 (wr ((l18.length : Int) + 1))]) 1 (i61.toNat) 0 x66 (wr ((l18.length : Int) + 1)) rfl rfl hS70 rfl (ix_some hx66).2 (by first | rfl | (show _ = _ * 1 + _; omega)) rfl Ty.size3 (by intro y hy; simp at hy; subst hy; rfl) (by first | decide | exact Nat.le_of_ble_eq_true rfl) (by rintro cs rfl; rfl) ?_
           intro w73 hS73
           refine W_nil ?_
           refine N_code ?_
           obtain ⟨x75, hx75, H⟩ := bd_some H
           obtain ⟨l78, hl78, H⟩ := bd_some H
           refine C_region ?_
           refine W_move rfl rfl ?_
           refine W_move rfl rfl ?_
           refine W_move rfl rfl ?_
           refine W_move rfl rfl ?_
           obtain ⟨hp80, hy80⟩ := ix_some hx75
           obtain ⟨cs80, hr80, he80⟩ := hS73.rowAt (k := 2) rfl hy80
           obtain rfl := hr80
           replace he80 : El _ _ 1 _ _ := he80
           refine W_ix rfl Go.Proofs.Try.underlying22 Ty.cells3 Ty.info3 rfl rfl he80 hp80 rfl ?_
           refine W_ld1 0 rfl Ty.cell3 rfl he80 (by omega) rfl ?_
           refine W_build (v := .agg (Move.cells (Move.mk 1 i61 x75 (Loc.mk 0 0 0 0))).toArray) rfl rfl (fun _ => by kernel_rfl) ?_
           refine W_bs (t := Move.t) [(Move.cells (Move.mk 1 i61 x75 (Loc.mk 0 0 0 0)))] [(Move.mk 1 i61 x75 (Loc.mk 0 0 0 0))] rfl Go.Proofs.Try.underlying25 Ty.cells42 rfl rfl Ty.zero42 rfl rfl ⟨rfl, trivial⟩ rfl rfl hS73 ?_
           intro u77 w77 hS77
           refine W_appM 4 rfl Go.Proofs.Try.underlying25 Ty.row42 rfl rfl rfl rfl rfl hS77 rfl (hS77.rowSrc (j := 0) rfl) hl78 ?_
           intro v79 w79 hS79
           refine W_assign rfl rfl ?_
           refine W_nil ?_
           refine N_block ?_
           exact N_againM (l78, l21, (l22.set i61.toNat (wr ((l18.length : Int) + 1))), (l23.set i61.toNat x62.loc.vol)) _ H ⟨F60, v79, rfl, (((le17.trans le25).trans le28).trans le60), hS79.pick [1, 2, 3, 4] (by decide)⟩ ⟨rfl, rfl, rfl, rfl, rfl, trivial⟩

def cellarerkeep_Moves.k1 : Option Bool :=
  some true


def cellarerkeep_Moves.l2 (x0 : List Move) (x1 : List Move) (rec5 : Int → Option Bool) : Int → Option Bool
  | i4 =>
    if decide (i4 < (x0.length : Int)) then
      bd (ix x0 i4) fun x7 =>
      bd (ix x1 i4) fun x9 =>
      bd (only (!((decide (x7.kind ≠ x9.kind) || decide (x7.drive ≠ x9.drive)) || decide (x7.vol ≠ x9.vol))) (cellarerkeep_Loc x7.loc x9.loc) false) fun r67 =>
      if (((decide (x7.kind ≠ x9.kind) || decide (x7.drive ≠ x9.drive)) || decide (x7.vol ≠ x9.vol)) || (!r67)) then
        some false
      else
        rec5 (wr (i4 + 1))
    else
      cellarerkeep_Moves.k1

def cellarerkeep_Moves (x0 : List Move) (x1 : List Move) : Option Bool :=
  if decide ((x0.length : Int) ≠ (x1.length : Int)) then
    some false
  else
    loop (cellarerkeep_Moves.l2 x0 x1) 0

theorem cellarerkeep_Moves_ok {F : Frz} {w : World} {x0 : List Move} {x1 : List Move} {r : Bool} {v0 : Value} {v1 : Value} (hA : Agree F w.heap) (h0 : SlF Move.t F v0 x0) (h1 : SlF Move.t F v1 x1) (H : cellarerkeep_Moves x0 x1 = some r) : Ret Try.prog 19 #[v0, v1] w fun v w' => ∃ (F' : Frz), v = .bool r ∧ St [] w F F' [] w' := by
 refine Ret_of (args := [v0, v1]) Go.Proofs.Try.func19 rfl rfl ?_
 change C _ _ _ _ [(0, v0), (1, v1)] _
 have hS := St.entry hA
 dsimp only [cellarerkeep_Moves] at H
 refine C_seq ?_
 refine C_region ?_
 refine W_assign rfl rfl ?_
 refine W_nil ?_
 refine N_code ?_
 refine C_seq ?_
 refine C_seq ?_
 refine C_region ?_
 refine W_move rfl rfl ?_
 refine W_lenv rfl Go.Proofs.Try.underlying25 rfl h0.ln ?_
 refine W_move rfl rfl ?_
 refine W_lenv rfl Go.Proofs.Try.underlying25 rfl h1.ln ?_
 refine W_neq rfl rfl rfl ?_
 refine W_nil ?_
 refine N_code ?_
 refine C_cond rfl (fun hc1 => ?_) (fun hc1 => ?_)
 ·
  rw [if_t hc1] at H
  refine C_seq ?_
  refine C_region ?_
  refine W_assign rfl rfl ?_
  refine W_nil ?_
  refine N_code ?_
  obtain rfl := Option.some.inj H
  refine C_ret rfl rfl ?_
  exact ⟨F, rfl, hS⟩
 ·
  rw [if_f hc1] at H
  refine C_skip ?_
  refine N_code ?_
  refine C_seq_join (fun E wq => cellarerkeep_Moves.k1 = some r ∧ ∃ (F2 : Frz), E = [] ∧ F.le F2 ∧ St [] w F F2 [] wq) ?_ ?_
  ·
   refine C_seq ?_
   refine C_region ?_
   refine W_assign rfl rfl ?_
   refine W_nil ?_
   refine N_code ?_
   refine C_block ?_
   refine C_loopM (fun (s : Int) E wq => ∃ (F3 : Frz), E = [(0, v0), (1, v1), (5, .int .i64 s)] ∧ F.le F3 ∧ St [] w F F3 [] wq) H ?_ ?_
   ·
    exact ⟨_, ⟨F, rfl, (Frz.le.refl _), hS⟩, ⟨rfl, rfl, rfl, trivial⟩⟩
   ·
    rintro rec5 i4 E w3 hI H
    try dsimp only at hI
    obtain ⟨F3, rfl, le3, hS3⟩ := hI
    dsimp only [cellarerkeep_Moves.l2] at H
    refine C_seq ?_
    refine C_seq ?_
    refine C_region ?_
    refine W_move rfl rfl ?_
    refine W_move rfl rfl ?_
    refine W_lenv rfl Go.Proofs.Try.underlying25 rfl h0.ln ?_
    refine W_lss rfl rfl rfl ?_
    refine W_nil ?_
    refine N_code ?_
    refine C_cond rfl (fun hc6 => ?_) (fun hc6 => ?_)
    ·
     rw [if_t hc6] at H
     refine C_skip ?_
     refine N_code ?_
     refine C_seq ?_
     refine C_block ?_
     refine C_seq ?_
     obtain ⟨x7, hx7, H⟩ := bd_some H
     obtain ⟨x9, hx9, H⟩ := bd_some H
     obtain ⟨hp13, hy13⟩ := ix_some hx7
     obtain ⟨cs13, hr13, he13⟩ := (h0.mono le3).at_ hy13
     obtain rfl := hr13
     replace he13 : Elf _ _ 7 _ _ := he13
     obtain ⟨hp14, hy14⟩ := ix_some hx9
     obtain ⟨cs14, hr14, he14⟩ := (h1.mono le3).at_ hy14
     obtain rfl := hr14
     replace he14 : Elf _ _ 7 _ _ := he14
     apply C_drawJ (fun D vs wz => ∀ (b8 b9 b10 : Bool), D 8 = b8 → D 9 = b9 → D 10 = b10 → match b8, b9, b10 with | false, false, false => ∃ FJ : Frz, F3.le FJ ∧ St [] w F FJ [] wz | true, false, false => ∃ FJ : Frz, ∃ g11 : Nat, vs 8 = pl g11 0 ∧ F3.le FJ ∧ St [] w F FJ [.box g11 42 [.int .i64 0, .int .i64 0, .int .i64 0, .int .i64 0, .int .i64 0, .int .i64 0, .int .i64 0]] wz | false, true, false => ∃ FJ : Frz, ∃ g12 : Nat, vs 9 = pl g12 0 ∧ F3.le FJ ∧ St [] w F FJ [.box g12 42 [.int .i64 0, .int .i64 0, .int .i64 0, .int .i64 0, .int .i64 0, .int .i64 0, .int .i64 0]] wz | true, true, false => ∃ FJ : Frz, ∃ g11 : Nat, ∃ g12 : Nat, vs 8 = pl g11 0 ∧ vs 9 = pl g12 0 ∧ F3.le FJ ∧ St [] w F FJ [.box g12 42 [.int .i64 0, .int .i64 0, .int .i64 0, .int .i64 0, .int .i64 0, .int .i64 0, .int .i64 0], .box g11 42 [.int .i64 0, .int .i64 0, .int .i64 0, .int .i64 0, .int .i64 0, .int .i64 0, .int .i64 0]] wz | true, true, true => ∃ FJ : Frz, ∃ g11 : Nat, ∃ g12 : Nat, vs 8 = pl g11 0 ∧ vs 9 = pl g12 0 ∧ F3.le FJ ∧ St [] w F FJ [.box g12 42 [.int .i64 0, .int .i64 0, .int .i64 0, .int .i64 0, .int .i64 0, .int .i64 0, .int .i64 0], .box g11 42 [.int .i64 x7.kind, .int .i64 x7.drive, .int .i64 x7.vol, .int .i64 x7.loc.vol, .int .i64 x7.loc.file, .int .i64 x7.loc.off, .int .i64 x7.loc.len]] wz | _, _, _ => False) 11 [[], [], [0, 1], [2], [], [], [4, 5], [6], [], [], [0, 1, 2, 3, 8, 9]] [some (v0), some (.int .i64 i4), some (elp v0 (i4.toNat * 7)), some (.agg (Move.cells x7).toArray), some (v1), some (.int .i64 i4), some (elp v1 (i4.toNat * 7)), some (.agg (Move.cells x9).toArray), none, none, none] Ty.mixed rfl (by kernel_rfl) (by kernel_rfl) rfl
     ·
      intro vq18 b8 b9 b10 h8 h9 h10
      obtain rfl : b8 = false := h8.symm
      obtain rfl : b9 = false := h9.symm
      obtain rfl : b10 = false := h10.symm
      exact ⟨F3, (Frz.le.refl _), (hS3.below (below_drew _))⟩
     ·
      refine ⟨?_, ?_, ?_, ?_, ?_, ?_, ?_, ?_, ?_, ?_, ?_, trivial⟩
      ·
       intro w19 vq19 D19 hD19 hd19 hJ19
       refine W_move rfl rfl ?_
       refine W_nil ?_
       exact N_stepJ rfl (fun u hu => Option.some.inj hu) hJ19
      ·
       intro w20 vq20 D20 hD20 hd20 hJ20
       refine W_move rfl rfl ?_
       refine W_nil ?_
       exact N_stepJ rfl (fun u hu => Option.some.inj hu) hJ20
      ·
       intro w21 vq21 D21 hD21 hd21 hJ21
       rcases Bool.eq_false_or_eq_true (D21 8) with hb22 | hb22
       ·
        rcases Bool.eq_false_or_eq_true (D21 9) with hb23 | hb23
        ·
         rcases Bool.eq_false_or_eq_true (D21 10) with hb24 | hb24
         ·
          obtain ⟨FJ21, g11, g12, he21_8, he21_9, leJ21, hSJ21⟩ := (hJ21 true true true hb22 hb23 hb24)
          refine W_ix rfl Go.Proofs.Try.underlying25 Ty.cells42 Ty.info42 rfl rfl (he13.el (hSJ21.agree.le leJ21)) hp13 rfl ?_
          refine W_nil ?_
          exact N_stepJ rfl (fun u hu => Option.some.inj hu) (fun b8 b9 b10 h8 h9 h10 => by obtain rfl : b8 = true := h8.symm.trans hb22; obtain rfl : b9 = true := h9.symm.trans hb23; obtain rfl : b10 = true := h10.symm.trans hb24; exact ⟨FJ21, g11, g12, he21_8, he21_9, leJ21, hSJ21⟩)
         ·
          obtain ⟨FJ21, g11, g12, he21_8, he21_9, leJ21, hSJ21⟩ := (hJ21 true true false hb22 hb23 hb24)
          refine W_ix rfl Go.Proofs.Try.underlying25 Ty.cells42 Ty.info42 rfl rfl (he13.el (hSJ21.agree.le leJ21)) hp13 rfl ?_
          refine W_nil ?_
          exact N_stepJ rfl (fun u hu => Option.some.inj hu) (fun b8 b9 b10 h8 h9 h10 => by obtain rfl : b8 = true := h8.symm.trans hb22; obtain rfl : b9 = true := h9.symm.trans hb23; obtain rfl : b10 = false := h10.symm.trans hb24; exact ⟨FJ21, g11, g12, he21_8, he21_9, leJ21, hSJ21⟩)
        ·
         rcases Bool.eq_false_or_eq_true (D21 10) with hb25 | hb25
         ·
          exact False.elim (hJ21 true false true hb22 hb23 hb25)
         ·
          obtain ⟨FJ21, g11, he21_8, leJ21, hSJ21⟩ := (hJ21 true false false hb22 hb23 hb25)
          refine W_ix rfl Go.Proofs.Try.underlying25 Ty.cells42 Ty.info42 rfl rfl (he13.el (hSJ21.agree.le leJ21)) hp13 rfl ?_
          refine W_nil ?_
          exact N_stepJ rfl (fun u hu => Option.some.inj hu) (fun b8 b9 b10 h8 h9 h10 => by obtain rfl : b8 = true := h8.symm.trans hb22; obtain rfl : b9 = false := h9.symm.trans hb23; obtain rfl : b10 = false := h10.symm.trans hb25; exact ⟨FJ21, g11, he21_8, leJ21, hSJ21⟩)
       ·
        rcases Bool.eq_false_or_eq_true (D21 9) with hb26 | hb26
        ·
         rcases Bool.eq_false_or_eq_true (D21 10) with hb27 | hb27
         ·
          exact False.elim (hJ21 false true true hb22 hb26 hb27)
         ·
          obtain ⟨FJ21, g12, he21_9, leJ21, hSJ21⟩ := (hJ21 false true false hb22 hb26 hb27)
          refine W_ix rfl Go.Proofs.Try.underlying25 Ty.cells42 Ty.info42 rfl rfl (he13.el (hSJ21.agree.le leJ21)) hp13 rfl ?_
          refine W_nil ?_
          exact N_stepJ rfl (fun u hu => Option.some.inj hu) (fun b8 b9 b10 h8 h9 h10 => by obtain rfl : b8 = false := h8.symm.trans hb22; obtain rfl : b9 = true := h9.symm.trans hb26; obtain rfl : b10 = false := h10.symm.trans hb27; exact ⟨FJ21, g12, he21_9, leJ21, hSJ21⟩)
        ·
         rcases Bool.eq_false_or_eq_true (D21 10) with hb28 | hb28
         ·
          exact False.elim (hJ21 false false true hb22 hb26 hb28)
         ·
          obtain ⟨FJ21, leJ21, hSJ21⟩ := (hJ21 false false false hb22 hb26 hb28)
          refine W_ix rfl Go.Proofs.Try.underlying25 Ty.cells42 Ty.info42 rfl rfl (he13.el (hSJ21.agree.le leJ21)) hp13 rfl ?_
          refine W_nil ?_
          exact N_stepJ rfl (fun u hu => Option.some.inj hu) (fun b8 b9 b10 h8 h9 h10 => by obtain rfl : b8 = false := h8.symm.trans hb22; obtain rfl : b9 = false := h9.symm.trans hb26; obtain rfl : b10 = false := h10.symm.trans hb28; exact ⟨FJ21, leJ21, hSJ21⟩)
      ·
       intro w29 vq29 D29 hD29 hd29 hJ29
       rcases Bool.eq_false_or_eq_true (D29 8) with hb30 | hb30
       ·
        rcases Bool.eq_false_or_eq_true (D29 9) with hb31 | hb31
        ·
         rcases Bool.eq_false_or_eq_true (D29 10) with hb32 | hb32
         ·
          obtain ⟨FJ29, g11, g12, he29_8, he29_9, leJ29, hSJ29⟩ := (hJ29 true true true hb30 hb31 hb32)
          refine W_ldg 0 ((Move.cells x7)) rfl Ty.agg42 Ty.size42 rfl (he13.el (hSJ29.agree.le leJ29)) (by omega) (fun q u h => sub_at (post := []) rfl h) ?_
          refine W_nil ?_
          exact N_stepJ rfl (fun u hu => Option.some.inj hu) (fun b8 b9 b10 h8 h9 h10 => by obtain rfl : b8 = true := h8.symm.trans hb30; obtain rfl : b9 = true := h9.symm.trans hb31; obtain rfl : b10 = true := h10.symm.trans hb32; exact ⟨FJ29, g11, g12, he29_8, he29_9, leJ29, hSJ29⟩)
         ·
          obtain ⟨FJ29, g11, g12, he29_8, he29_9, leJ29, hSJ29⟩ := (hJ29 true true false hb30 hb31 hb32)
          refine W_ldg 0 ((Move.cells x7)) rfl Ty.agg42 Ty.size42 rfl (he13.el (hSJ29.agree.le leJ29)) (by omega) (fun q u h => sub_at (post := []) rfl h) ?_
          refine W_nil ?_
          exact N_stepJ rfl (fun u hu => Option.some.inj hu) (fun b8 b9 b10 h8 h9 h10 => by obtain rfl : b8 = true := h8.symm.trans hb30; obtain rfl : b9 = true := h9.symm.trans hb31; obtain rfl : b10 = false := h10.symm.trans hb32; exact ⟨FJ29, g11, g12, he29_8, he29_9, leJ29, hSJ29⟩)
        ·
         rcases Bool.eq_false_or_eq_true (D29 10) with hb33 | hb33
         ·
          exact False.elim (hJ29 true false true hb30 hb31 hb33)
         ·
          obtain ⟨FJ29, g11, he29_8, leJ29, hSJ29⟩ := (hJ29 true false false hb30 hb31 hb33)
          refine W_ldg 0 ((Move.cells x7)) rfl Ty.agg42 Ty.size42 rfl (he13.el (hSJ29.agree.le leJ29)) (by omega) (fun q u h => sub_at (post := []) rfl h) ?_
          refine W_nil ?_
          exact N_stepJ rfl (fun u hu => Option.some.inj hu) (fun b8 b9 b10 h8 h9 h10 => by obtain rfl : b8 = true := h8.symm.trans hb30; obtain rfl : b9 = false := h9.symm.trans hb31; obtain rfl : b10 = false := h10.symm.trans hb33; exact ⟨FJ29, g11, he29_8, leJ29, hSJ29⟩)
       ·
        rcases Bool.eq_false_or_eq_true (D29 9) with hb34 | hb34
        ·
         rcases Bool.eq_false_or_eq_true (D29 10) with hb35 | hb35
         ·
          exact False.elim (hJ29 false true true hb30 hb34 hb35)
         ·
          obtain ⟨FJ29, g12, he29_9, leJ29, hSJ29⟩ := (hJ29 false true false hb30 hb34 hb35)
          refine W_ldg 0 ((Move.cells x7)) rfl Ty.agg42 Ty.size42 rfl (he13.el (hSJ29.agree.le leJ29)) (by omega) (fun q u h => sub_at (post := []) rfl h) ?_
          refine W_nil ?_
          exact N_stepJ rfl (fun u hu => Option.some.inj hu) (fun b8 b9 b10 h8 h9 h10 => by obtain rfl : b8 = false := h8.symm.trans hb30; obtain rfl : b9 = true := h9.symm.trans hb34; obtain rfl : b10 = false := h10.symm.trans hb35; exact ⟨FJ29, g12, he29_9, leJ29, hSJ29⟩)
        ·
         rcases Bool.eq_false_or_eq_true (D29 10) with hb36 | hb36
         ·
          exact False.elim (hJ29 false false true hb30 hb34 hb36)
         ·
          obtain ⟨FJ29, leJ29, hSJ29⟩ := (hJ29 false false false hb30 hb34 hb36)
          refine W_ldg 0 ((Move.cells x7)) rfl Ty.agg42 Ty.size42 rfl (he13.el (hSJ29.agree.le leJ29)) (by omega) (fun q u h => sub_at (post := []) rfl h) ?_
          refine W_nil ?_
          exact N_stepJ rfl (fun u hu => Option.some.inj hu) (fun b8 b9 b10 h8 h9 h10 => by obtain rfl : b8 = false := h8.symm.trans hb30; obtain rfl : b9 = false := h9.symm.trans hb34; obtain rfl : b10 = false := h10.symm.trans hb36; exact ⟨FJ29, leJ29, hSJ29⟩)
      ·
       intro w37 vq37 D37 hD37 hd37 hJ37
       refine W_move rfl rfl ?_
       refine W_nil ?_
       exact N_stepJ rfl (fun u hu => Option.some.inj hu) hJ37
      ·
       intro w38 vq38 D38 hD38 hd38 hJ38
       refine W_move rfl rfl ?_
       refine W_nil ?_
       exact N_stepJ rfl (fun u hu => Option.some.inj hu) hJ38
      ·
       intro w39 vq39 D39 hD39 hd39 hJ39
       rcases Bool.eq_false_or_eq_true (D39 8) with hb40 | hb40
       ·
        rcases Bool.eq_false_or_eq_true (D39 9) with hb41 | hb41
        ·
         rcases Bool.eq_false_or_eq_true (D39 10) with hb42 | hb42
         ·
          obtain ⟨FJ39, g11, g12, he39_8, he39_9, leJ39, hSJ39⟩ := (hJ39 true true true hb40 hb41 hb42)
          refine W_ix rfl Go.Proofs.Try.underlying25 Ty.cells42 Ty.info42 rfl rfl (he14.el (hSJ39.agree.le leJ39)) hp14 rfl ?_
          refine W_nil ?_
          exact N_stepJ rfl (fun u hu => Option.some.inj hu) (fun b8 b9 b10 h8 h9 h10 => by obtain rfl : b8 = true := h8.symm.trans hb40; obtain rfl : b9 = true := h9.symm.trans hb41; obtain rfl : b10 = true := h10.symm.trans hb42; exact ⟨FJ39, g11, g12, he39_8, he39_9, leJ39, hSJ39⟩)
         ·
          obtain ⟨FJ39, g11, g12, he39_8, he39_9, leJ39, hSJ39⟩ := (hJ39 true true false hb40 hb41 hb42)
          refine W_ix rfl Go.Proofs.Try.underlying25 Ty.cells42 Ty.info42 rfl rfl (he14.el (hSJ39.agree.le leJ39)) hp14 rfl ?_
          refine W_nil ?_
          exact N_stepJ rfl (fun u hu => Option.some.inj hu) (fun b8 b9 b10 h8 h9 h10 => by obtain rfl : b8 = true := h8.symm.trans hb40; obtain rfl : b9 = true := h9.symm.trans hb41; obtain rfl : b10 = false := h10.symm.trans hb42; exact ⟨FJ39, g11, g12, he39_8, he39_9, leJ39, hSJ39⟩)
        ·
         rcases Bool.eq_false_or_eq_true (D39 10) with hb43 | hb43
         ·
          exact False.elim (hJ39 true false true hb40 hb41 hb43)
         ·
          obtain ⟨FJ39, g11, he39_8, leJ39, hSJ39⟩ := (hJ39 true false false hb40 hb41 hb43)
          refine W_ix rfl Go.Proofs.Try.underlying25 Ty.cells42 Ty.info42 rfl rfl (he14.el (hSJ39.agree.le leJ39)) hp14 rfl ?_
          refine W_nil ?_
          exact N_stepJ rfl (fun u hu => Option.some.inj hu) (fun b8 b9 b10 h8 h9 h10 => by obtain rfl : b8 = true := h8.symm.trans hb40; obtain rfl : b9 = false := h9.symm.trans hb41; obtain rfl : b10 = false := h10.symm.trans hb43; exact ⟨FJ39, g11, he39_8, leJ39, hSJ39⟩)
       ·
        rcases Bool.eq_false_or_eq_true (D39 9) with hb44 | hb44
        ·
         rcases Bool.eq_false_or_eq_true (D39 10) with hb45 | hb45
         ·
          exact False.elim (hJ39 false true true hb40 hb44 hb45)
         ·
          obtain ⟨FJ39, g12, he39_9, leJ39, hSJ39⟩ := (hJ39 false true false hb40 hb44 hb45)
          refine W_ix rfl Go.Proofs.Try.underlying25 Ty.cells42 Ty.info42 rfl rfl (he14.el (hSJ39.agree.le leJ39)) hp14 rfl ?_
          refine W_nil ?_
          exact N_stepJ rfl (fun u hu => Option.some.inj hu) (fun b8 b9 b10 h8 h9 h10 => by obtain rfl : b8 = false := h8.symm.trans hb40; obtain rfl : b9 = true := h9.symm.trans hb44; obtain rfl : b10 = false := h10.symm.trans hb45; exact ⟨FJ39, g12, he39_9, leJ39, hSJ39⟩)
        ·
         rcases Bool.eq_false_or_eq_true (D39 10) with hb46 | hb46
         ·
          exact False.elim (hJ39 false false true hb40 hb44 hb46)
         ·
          obtain ⟨FJ39, leJ39, hSJ39⟩ := (hJ39 false false false hb40 hb44 hb46)
          refine W_ix rfl Go.Proofs.Try.underlying25 Ty.cells42 Ty.info42 rfl rfl (he14.el (hSJ39.agree.le leJ39)) hp14 rfl ?_
          refine W_nil ?_
          exact N_stepJ rfl (fun u hu => Option.some.inj hu) (fun b8 b9 b10 h8 h9 h10 => by obtain rfl : b8 = false := h8.symm.trans hb40; obtain rfl : b9 = false := h9.symm.trans hb44; obtain rfl : b10 = false := h10.symm.trans hb46; exact ⟨FJ39, leJ39, hSJ39⟩)
      ·
       intro w47 vq47 D47 hD47 hd47 hJ47
       rcases Bool.eq_false_or_eq_true (D47 8) with hb48 | hb48
       ·
        rcases Bool.eq_false_or_eq_true (D47 9) with hb49 | hb49
        ·
         rcases Bool.eq_false_or_eq_true (D47 10) with hb50 | hb50
         ·
          obtain ⟨FJ47, g11, g12, he47_8, he47_9, leJ47, hSJ47⟩ := (hJ47 true true true hb48 hb49 hb50)
          refine W_ldg 0 ((Move.cells x9)) rfl Ty.agg42 Ty.size42 rfl (he14.el (hSJ47.agree.le leJ47)) (by omega) (fun q u h => sub_at (post := []) rfl h) ?_
          refine W_nil ?_
          exact N_stepJ rfl (fun u hu => Option.some.inj hu) (fun b8 b9 b10 h8 h9 h10 => by obtain rfl : b8 = true := h8.symm.trans hb48; obtain rfl : b9 = true := h9.symm.trans hb49; obtain rfl : b10 = true := h10.symm.trans hb50; exact ⟨FJ47, g11, g12, he47_8, he47_9, leJ47, hSJ47⟩)
         ·
          obtain ⟨FJ47, g11, g12, he47_8, he47_9, leJ47, hSJ47⟩ := (hJ47 true true false hb48 hb49 hb50)
          refine W_ldg 0 ((Move.cells x9)) rfl Ty.agg42 Ty.size42 rfl (he14.el (hSJ47.agree.le leJ47)) (by omega) (fun q u h => sub_at (post := []) rfl h) ?_
          refine W_nil ?_
          exact N_stepJ rfl (fun u hu => Option.some.inj hu) (fun b8 b9 b10 h8 h9 h10 => by obtain rfl : b8 = true := h8.symm.trans hb48; obtain rfl : b9 = true := h9.symm.trans hb49; obtain rfl : b10 = false := h10.symm.trans hb50; exact ⟨FJ47, g11, g12, he47_8, he47_9, leJ47, hSJ47⟩)
        ·
         rcases Bool.eq_false_or_eq_true (D47 10) with hb51 | hb51
         ·
          exact False.elim (hJ47 true false true hb48 hb49 hb51)
         ·
          obtain ⟨FJ47, g11, he47_8, leJ47, hSJ47⟩ := (hJ47 true false false hb48 hb49 hb51)
          refine W_ldg 0 ((Move.cells x9)) rfl Ty.agg42 Ty.size42 rfl (he14.el (hSJ47.agree.le leJ47)) (by omega) (fun q u h => sub_at (post := []) rfl h) ?_
          refine W_nil ?_
          exact N_stepJ rfl (fun u hu => Option.some.inj hu) (fun b8 b9 b10 h8 h9 h10 => by obtain rfl : b8 = true := h8.symm.trans hb48; obtain rfl : b9 = false := h9.symm.trans hb49; obtain rfl : b10 = false := h10.symm.trans hb51; exact ⟨FJ47, g11, he47_8, leJ47, hSJ47⟩)
       ·
        rcases Bool.eq_false_or_eq_true (D47 9) with hb52 | hb52
        ·
         rcases Bool.eq_false_or_eq_true (D47 10) with hb53 | hb53
         ·
          exact False.elim (hJ47 false true true hb48 hb52 hb53)
         ·
          obtain ⟨FJ47, g12, he47_9, leJ47, hSJ47⟩ := (hJ47 false true false hb48 hb52 hb53)
          refine W_ldg 0 ((Move.cells x9)) rfl Ty.agg42 Ty.size42 rfl (he14.el (hSJ47.agree.le leJ47)) (by omega) (fun q u h => sub_at (post := []) rfl h) ?_
          refine W_nil ?_
          exact N_stepJ rfl (fun u hu => Option.some.inj hu) (fun b8 b9 b10 h8 h9 h10 => by obtain rfl : b8 = false := h8.symm.trans hb48; obtain rfl : b9 = true := h9.symm.trans hb52; obtain rfl : b10 = false := h10.symm.trans hb53; exact ⟨FJ47, g12, he47_9, leJ47, hSJ47⟩)
        ·
         rcases Bool.eq_false_or_eq_true (D47 10) with hb54 | hb54
         ·
          exact False.elim (hJ47 false false true hb48 hb52 hb54)
         ·
          obtain ⟨FJ47, leJ47, hSJ47⟩ := (hJ47 false false false hb48 hb52 hb54)
          refine W_ldg 0 ((Move.cells x9)) rfl Ty.agg42 Ty.size42 rfl (he14.el (hSJ47.agree.le leJ47)) (by omega) (fun q u h => sub_at (post := []) rfl h) ?_
          refine W_nil ?_
          exact N_stepJ rfl (fun u hu => Option.some.inj hu) (fun b8 b9 b10 h8 h9 h10 => by obtain rfl : b8 = false := h8.symm.trans hb48; obtain rfl : b9 = false := h9.symm.trans hb52; obtain rfl : b10 = false := h10.symm.trans hb54; exact ⟨FJ47, leJ47, hSJ47⟩)
      ·
       intro w55 vq55 D55 hD55 hd55 hJ55
       rcases Bool.eq_false_or_eq_true (D55 9) with hb56 | hb56
       ·
        rcases Bool.eq_false_or_eq_true (D55 10) with hb57 | hb57
        ·
         exact False.elim (hJ55 false true true hD55 hb56 hb57)
        ·
         obtain ⟨FJ55, g12, he55_9, leJ55, hSJ55⟩ := (hJ55 false true false hD55 hb56 hb57)
         refine W_alc (cs := [.int .i64 0, .int .i64 0, .int .i64 0, .int .i64 0, .int .i64 0, .int .i64 0, .int .i64 0]) rfl Ty.zero42 rfl hSJ55 ?_
         intro g11 w11 hS11
         refine W_nil ?_
         exact N_stepJ rfl (fun u (hu : (none : Option Value) = some u) => by cases hu) (fun b8 b9 b10 h8 h9 h10 => by obtain rfl : b8 = true := h8.symm; obtain rfl : b9 = true := h9.symm.trans hb56; obtain rfl : b10 = false := h10.symm.trans hb57; exact ⟨FJ55, g11, g12, rfl, he55_9, leJ55, hS11.pick [1, 0] (by decide)⟩)
       ·
        rcases Bool.eq_false_or_eq_true (D55 10) with hb58 | hb58
        ·
         exact False.elim (hJ55 false false true hD55 hb56 hb58)
        ·
         obtain ⟨FJ55, leJ55, hSJ55⟩ := (hJ55 false false false hD55 hb56 hb58)
         refine W_alc (cs := [.int .i64 0, .int .i64 0, .int .i64 0, .int .i64 0, .int .i64 0, .int .i64 0, .int .i64 0]) rfl Ty.zero42 rfl hSJ55 ?_
         intro g11 w11 hS11
         refine W_nil ?_
         exact N_stepJ rfl (fun u (hu : (none : Option Value) = some u) => by cases hu) (fun b8 b9 b10 h8 h9 h10 => by obtain rfl : b8 = true := h8.symm; obtain rfl : b9 = false := h9.symm.trans hb56; obtain rfl : b10 = false := h10.symm.trans hb58; exact ⟨FJ55, g11, rfl, leJ55, hS11⟩)
      ·
       intro w59 vq59 D59 hD59 hd59 hJ59
       rcases Bool.eq_false_or_eq_true (D59 8) with hb60 | hb60
       ·
        rcases Bool.eq_false_or_eq_true (D59 10) with hb61 | hb61
        ·
         exact False.elim (hJ59 true false true hb60 hD59 hb61)
        ·
         obtain ⟨FJ59, g11, he59_8, leJ59, hSJ59⟩ := (hJ59 true false false hb60 hD59 hb61)
         refine W_alc (cs := [.int .i64 0, .int .i64 0, .int .i64 0, .int .i64 0, .int .i64 0, .int .i64 0, .int .i64 0]) rfl Ty.zero42 rfl hSJ59 ?_
         intro g12 w12 hS12
         refine W_nil ?_
         exact N_stepJ rfl (fun u (hu : (none : Option Value) = some u) => by cases hu) (fun b8 b9 b10 h8 h9 h10 => by obtain rfl : b8 = true := h8.symm.trans hb60; obtain rfl : b9 = true := h9.symm; obtain rfl : b10 = false := h10.symm.trans hb61; exact ⟨FJ59, g11, g12, he59_8, rfl, leJ59, hS12⟩)
       ·
        rcases Bool.eq_false_or_eq_true (D59 10) with hb62 | hb62
        ·
         exact False.elim (hJ59 false false true hb60 hD59 hb62)
        ·
         obtain ⟨FJ59, leJ59, hSJ59⟩ := (hJ59 false false false hb60 hD59 hb62)
         refine W_alc (cs := [.int .i64 0, .int .i64 0, .int .i64 0, .int .i64 0, .int .i64 0, .int .i64 0, .int .i64 0]) rfl Ty.zero42 rfl hSJ59 ?_
         intro g12 w12 hS12
         refine W_nil ?_
         exact N_stepJ rfl (fun u (hu : (none : Option Value) = some u) => by cases hu) (fun b8 b9 b10 h8 h9 h10 => by obtain rfl : b8 = false := h8.symm.trans hb60; obtain rfl : b9 = true := h9.symm; obtain rfl : b10 = false := h10.symm.trans hb62; exact ⟨FJ59, g12, rfl, leJ59, hS12⟩)
      ·
       intro w63 vq63 D63 hD63 hd63 hJ63
       obtain ⟨FJ63, g11, g12, he63_8, he63_9, leJ63, hSJ63⟩ := (hJ63 true true false (hd63 8 (by decide)) (hd63 9 (by decide)) hD63)
       refine W_eqv (t := 6) rfl he63_8 ?_
       refine W_eqv (t := 7) rfl he63_9 ?_
       refine W_bst (c := [.int .i64 x7.kind, .int .i64 x7.drive, .int .i64 x7.vol, .int .i64 x7.loc.vol, .int .i64 x7.loc.file, .int .i64 x7.loc.off, .int .i64 x7.loc.len]) 1 ([.int .i64 x7.kind, .int .i64 x7.drive, .int .i64 x7.vol, .int .i64 x7.loc.vol, .int .i64 x7.loc.file, .int .i64 x7.loc.off, .int .i64 x7.loc.len]) rfl rfl hSJ63 rfl rfl Ty.size42 (fun y hy => Move.t.one (F := FJ63) (x := x7) rfl y hy) (Nat.le_of_ble_eq_true rfl) rfl ?_
       intro w64 hS64
       refine W_nil ?_
       exact N_stepJ0 (fun b8 b9 b10 h8 h9 h10 => by obtain rfl : b8 = true := h8.symm.trans (hd63 8 (by decide)); obtain rfl : b9 = true := h9.symm.trans (hd63 9 (by decide)); obtain rfl : b10 = true := h10.symm; exact ⟨FJ63, g11, g12, he63_8, he63_9, leJ63, hS64⟩)
     intro w65 vq65 D65 hA65 hJ65
     obtain ⟨FJ65, g11, g12, he65_8, he65_9, leJ65, hSJ65⟩ := (hJ65 true true true (hA65 8 (by decide)) (hA65 9 (by decide)) (hA65 10 (by decide)))
     refine W_eqv (t := 6) rfl he65_8 ?_
     refine W_eqv (t := 7) rfl he65_9 ?_
     refine W_bst (c := [.int .i64 x9.kind, .int .i64 x9.drive, .int .i64 x9.vol, .int .i64 x9.loc.vol, .int .i64 x9.loc.file, .int .i64 x9.loc.off, .int .i64 x9.loc.len]) 0 ([.int .i64 x9.kind, .int .i64 x9.drive, .int .i64 x9.vol, .int .i64 x9.loc.vol, .int .i64 x9.loc.file, .int .i64 x9.loc.off, .int .i64 x9.loc.len]) rfl rfl hSJ65 rfl rfl Ty.size42 (fun y hy => Move.t.one (F := FJ65) (x := x9) rfl y hy) (Nat.le_of_ble_eq_true rfl) rfl ?_
     intro w66 hS66
     refine W_nil ?_
     refine N_code ?_
     refine C_seq ?_
     obtain ⟨r67, hr67, H⟩ := bd_some H
     refine C_join (fun E wq => E = [(0, v0), (1, v1), (5, .int .i64 i4), (53, .bool (((decide (x7.kind ≠ x9.kind) || decide (x7.drive ≠ x9.drive)) || decide (x7.vol ≠ x9.vol)) || (!r67)))] ∧ ∃ F68 : Frz, FJ65.le F68 ∧ St [] w F F68 [.box g12 42 [.int .i64 x9.kind, .int .i64 x9.drive, .int .i64 x9.vol, .int .i64 x9.loc.vol, .int .i64 x9.loc.file, .int .i64 x9.loc.off, .int .i64 x9.loc.len], .box g11 42 [.int .i64 x7.kind, .int .i64 x7.drive, .int .i64 x7.vol, .int .i64 x7.loc.vol, .int .i64 x7.loc.file, .int .i64 x7.loc.off, .int .i64 x7.loc.len]] wq) ?_ ?_
     ·
      rcases Bool.eq_false_or_eq_true (decide (x7.kind ≠ x9.kind)) with hb69 | hb69
      ·
       refine C_region ?_
       refine W_field_pl 0 rfl Ty.field42_0 rfl ?_
       refine W_bld1 1 rfl Ty.cell3 rfl hS66 rfl rfl ?_
       refine W_field_pl 0 rfl Ty.field42_0 rfl ?_
       refine W_bld1 0 rfl Ty.cell3 rfl hS66 rfl rfl ?_
       refine W_neq rfl rfl rfl ?_
       refine W_move rfl rfl ?_
       refine W_known (t := 32) true rfl hb69 ?_
       refine W_guard_no rfl rfl rfl rfl rfl ?_
       refine W_guard_no rfl rfl rfl rfl rfl ?_
       refine W_guard_no rfl rfl rfl rfl rfl ?_
       refine W_guard_no rfl rfl rfl rfl rfl ?_
       refine W_guard_no rfl rfl rfl rfl rfl ?_
       refine W_pick_t rfl rfl rfl ?_
       refine W_move rfl rfl ?_
       refine W_guard_no rfl rfl rfl rfl rfl ?_
       refine W_guard_no rfl rfl rfl rfl rfl ?_
       refine W_guard_no rfl rfl rfl rfl rfl ?_
       refine W_guard_no rfl rfl rfl rfl rfl ?_
       refine W_guard_no rfl rfl rfl rfl rfl ?_
       refine W_pick_t rfl rfl rfl ?_
       refine W_move rfl rfl ?_
       refine W_guard_no rfl rfl rfl rfl rfl ?_
       refine W_guard_no rfl rfl rfl rfl rfl ?_
       refine W_guard_no rfl rfl rfl rfl rfl ?_
       refine W_guard_no rfl rfl rfl rfl rfl ?_
       refine W_guard_no rfl rfl rfl rfl rfl ?_
       refine W_guard_no rfl rfl rfl rfl rfl ?_
       refine W_pick_t rfl rfl rfl ?_
       refine W_nil ?_
       exact N_join _ ⟨rfl, FJ65, (Frz.le.refl _), hS66⟩ ⟨rfl, rfl, rfl, (look_bool rfl (by first | rfl | (rw [hb69]; first | done | rfl) | simp [hb69])), trivial⟩
      ·
       rcases Bool.eq_false_or_eq_true (decide (x7.drive ≠ x9.drive)) with hb70 | hb70
       ·
        refine C_region ?_
        refine W_field_pl 0 rfl Ty.field42_0 rfl ?_
        refine W_bld1 1 rfl Ty.cell3 rfl hS66 rfl rfl ?_
        refine W_field_pl 0 rfl Ty.field42_0 rfl ?_
        refine W_bld1 0 rfl Ty.cell3 rfl hS66 rfl rfl ?_
        refine W_neq rfl rfl rfl ?_
        refine W_move rfl rfl ?_
        refine W_known (t := 32) false rfl hb69 ?_
        refine W_guard_yes rfl ?_
        refine W_field_pl 1 rfl Ty.field42_1 rfl ?_
        refine W_guard_yes rfl ?_
        refine W_bld1 1 rfl Ty.cell3 rfl hS66 rfl rfl ?_
        refine W_guard_yes rfl ?_
        refine W_field_pl 1 rfl Ty.field42_1 rfl ?_
        refine W_guard_yes rfl ?_
        refine W_bld1 0 rfl Ty.cell3 rfl hS66 rfl rfl ?_
        refine W_guard_yes rfl ?_
        refine W_neq rfl rfl rfl ?_
        refine W_pick_f rfl rfl rfl ?_
        refine W_move rfl rfl ?_
        refine W_known (t := 39) true rfl hb70 ?_
        refine W_guard_no rfl rfl rfl rfl rfl ?_
        refine W_guard_no rfl rfl rfl rfl rfl ?_
        refine W_guard_no rfl rfl rfl rfl rfl ?_
        refine W_guard_no rfl rfl rfl rfl rfl ?_
        refine W_guard_no rfl rfl rfl rfl rfl ?_
        refine W_pick_t rfl rfl rfl ?_
        refine W_move rfl rfl ?_
        refine W_guard_no rfl rfl rfl rfl rfl ?_
        refine W_guard_no rfl rfl rfl rfl rfl ?_
        refine W_guard_no rfl rfl rfl rfl rfl ?_
        refine W_guard_no rfl rfl rfl rfl rfl ?_
        refine W_guard_no rfl rfl rfl rfl rfl ?_
        refine W_guard_no rfl rfl rfl rfl rfl ?_
        refine W_pick_t rfl rfl rfl ?_
        refine W_nil ?_
        exact N_join _ ⟨rfl, FJ65, (Frz.le.refl _), hS66⟩ ⟨rfl, rfl, rfl, (look_bool rfl (by first | rfl | (rw [hb70, hb69]; first | done | rfl) | simp [hb69, hb70])), trivial⟩
       ·
        rcases Bool.eq_false_or_eq_true (decide (x7.vol ≠ x9.vol)) with hb71 | hb71
        ·
         refine C_region ?_
         refine W_field_pl 0 rfl Ty.field42_0 rfl ?_
         refine W_bld1 1 rfl Ty.cell3 rfl hS66 rfl rfl ?_
         refine W_field_pl 0 rfl Ty.field42_0 rfl ?_
         refine W_bld1 0 rfl Ty.cell3 rfl hS66 rfl rfl ?_
         refine W_neq rfl rfl rfl ?_
         refine W_move rfl rfl ?_
         refine W_known (t := 32) false rfl hb69 ?_
         refine W_guard_yes rfl ?_
         refine W_field_pl 1 rfl Ty.field42_1 rfl ?_
         refine W_guard_yes rfl ?_
         refine W_bld1 1 rfl Ty.cell3 rfl hS66 rfl rfl ?_
         refine W_guard_yes rfl ?_
         refine W_field_pl 1 rfl Ty.field42_1 rfl ?_
         refine W_guard_yes rfl ?_
         refine W_bld1 0 rfl Ty.cell3 rfl hS66 rfl rfl ?_
         refine W_guard_yes rfl ?_
         refine W_neq rfl rfl rfl ?_
         refine W_pick_f rfl rfl rfl ?_
         refine W_move rfl rfl ?_
         refine W_known (t := 39) false rfl hb70 ?_
         refine W_guard_yes rfl ?_
         refine W_field_pl 2 rfl Ty.field42_2 rfl ?_
         refine W_guard_yes rfl ?_
         refine W_bld1 1 rfl Ty.cell3 rfl hS66 rfl rfl ?_
         refine W_guard_yes rfl ?_
         refine W_field_pl 2 rfl Ty.field42_2 rfl ?_
         refine W_guard_yes rfl ?_
         refine W_bld1 0 rfl Ty.cell3 rfl hS66 rfl rfl ?_
         refine W_guard_yes rfl ?_
         refine W_neq rfl rfl rfl ?_
         refine W_pick_f rfl rfl rfl ?_
         refine W_move rfl rfl ?_
         refine W_known (t := 46) true rfl hb71 ?_
         refine W_guard_no rfl rfl rfl rfl rfl ?_
         refine W_guard_no rfl rfl rfl rfl rfl ?_
         refine W_guard_no rfl rfl rfl rfl rfl ?_
         refine W_guard_no rfl rfl rfl rfl rfl ?_
         refine W_guard_no rfl rfl rfl rfl rfl ?_
         refine W_guard_no rfl rfl rfl rfl rfl ?_
         refine W_pick_t rfl rfl rfl ?_
         refine W_nil ?_
         exact N_join _ ⟨rfl, FJ65, (Frz.le.refl _), hS66⟩ ⟨rfl, rfl, rfl, (look_bool rfl (by first | rfl | (rw [hb70, hb69, hb71]; first | done | rfl) | simp [hb69, hb70, hb71])), trivial⟩
        ·
         refine C_region ?_
         refine W_field_pl 0 rfl Ty.field42_0 rfl ?_
         refine W_bld1 1 rfl Ty.cell3 rfl hS66 rfl rfl ?_
         refine W_field_pl 0 rfl Ty.field42_0 rfl ?_
         refine W_bld1 0 rfl Ty.cell3 rfl hS66 rfl rfl ?_
         refine W_neq rfl rfl rfl ?_
         refine W_move rfl rfl ?_
         refine W_known (t := 32) false rfl hb69 ?_
         refine W_guard_yes rfl ?_
         refine W_field_pl 1 rfl Ty.field42_1 rfl ?_
         refine W_guard_yes rfl ?_
         refine W_bld1 1 rfl Ty.cell3 rfl hS66 rfl rfl ?_
         refine W_guard_yes rfl ?_
         refine W_field_pl 1 rfl Ty.field42_1 rfl ?_
         refine W_guard_yes rfl ?_
         refine W_bld1 0 rfl Ty.cell3 rfl hS66 rfl rfl ?_
         refine W_guard_yes rfl ?_
         refine W_neq rfl rfl rfl ?_
         refine W_pick_f rfl rfl rfl ?_
         refine W_move rfl rfl ?_
         refine W_known (t := 39) false rfl hb70 ?_
         refine W_guard_yes rfl ?_
         refine W_field_pl 2 rfl Ty.field42_2 rfl ?_
         refine W_guard_yes rfl ?_
         refine W_bld1 1 rfl Ty.cell3 rfl hS66 rfl rfl ?_
         refine W_guard_yes rfl ?_
         refine W_field_pl 2 rfl Ty.field42_2 rfl ?_
         refine W_guard_yes rfl ?_
         refine W_bld1 0 rfl Ty.cell3 rfl hS66 rfl rfl ?_
         refine W_guard_yes rfl ?_
         refine W_neq rfl rfl rfl ?_
         refine W_pick_f rfl rfl rfl ?_
         refine W_move rfl rfl ?_
         refine W_known (t := 46) false rfl hb71 ?_
         refine W_guard_yes rfl ?_
         refine W_field_pl 3 rfl Ty.field42_3 rfl ?_
         refine W_guard_yes rfl ?_
         refine W_bldg 1 ((Loc.cells x7.loc)) rfl Ty.agg37 Ty.size37 rfl hS66 rfl (fun q u h => sub_at (post := []) rfl h) ?_
         refine W_guard_yes rfl ?_
         refine W_field_pl 3 rfl Ty.field42_3 rfl ?_
         refine W_guard_yes rfl ?_
         refine W_bldg 0 ((Loc.cells x9.loc)) rfl Ty.agg37 Ty.size37 rfl hS66 rfl (fun q u h => sub_at (post := []) rfl h) ?_
         refine W_guard_yes rfl ?_
         have hy72 := hr67
         rw [only_t (by first | rfl | (rw [hb70, hb69, hb71]; first | done | rfl) | simp [hb69, hb70, hb71])] at hy72
         refine W_call rfl Ty.named24 rfl (cellarerkeep_Loc_ok hS66.agree hy72) ?_
         rintro v73 w73 ⟨Fr67, rfl, hT73⟩
         have hS73 := hS66.lent hT73
         refine W_guard_yes rfl ?_
         refine W_not rfl rfl ?_
         refine W_pick_f rfl rfl rfl ?_
         refine W_nil ?_
         exact N_join _ ⟨rfl, FJ65, (Frz.le.refl _), hS73⟩ ⟨rfl, rfl, rfl, (look_bool rfl (by first | rfl | (rw [hb70, hb69, hb71]; first | done | rfl) | simp [hb69, hb70, hb71])), trivial⟩
     rintro E w68 ⟨rfl, F68, le68, hS68⟩
     refine N_code ?_
     refine C_cond rfl (fun hc74 => ?_) (fun hc74 => ?_)
     ·
      rw [if_t hc74] at H
      refine C_seq ?_
      refine C_region ?_
      refine W_assign rfl rfl ?_
      refine W_nil ?_
      refine N_code ?_
      obtain rfl := Option.some.inj H
      refine C_ret rfl rfl ?_
      exact ⟨F68, rfl, hS68.pick [] (by decide)⟩
     ·
      rw [if_f hc74] at H
      refine C_skip ?_
      refine N_block ?_
      refine N_code ?_
      refine C_region ?_
      refine W_move rfl rfl ?_
      refine W_add rfl rfl rfl rfl ?_
      refine W_assign rfl rfl ?_
      refine W_nil ?_
      exact N_againM (wr (i4 + 1)) _ H ⟨F68, rfl, ((le3.trans leJ65).trans le68), hS68.pick [] (by decide)⟩ ⟨rfl, rfl, rfl, trivial⟩
    ·
     rw [if_f hc6] at H
     refine C_exit _ rfl ?_
     exact N_join _ ⟨H, ⟨F3, rfl, le3, hS3⟩⟩ trivial
  ·
   rintro E w2 ⟨H, F2, rfl, le2, hS2⟩
   dsimp only [cellarerkeep_Moves.k1] at H
   refine C_seq ?_
   refine C_region ?_
   refine W_assign rfl rfl ?_
   refine W_nil ?_
   refine N_code ?_
   obtain rfl := Option.some.inj H
   refine C_ret rfl rfl ?_
   exact ⟨F2, rfl, hS2⟩

def mounts_Bound (x0 : List Read) : Option Int :=
  bd (plan_Vols x0) fun r1 =>
  some (wr ((x0.length : Int) + (r1.length : Int)))

theorem mounts_Bound_ok {F : Frz} {w : World} {x0 : List Read} {r : Int} {v0 : Value} (hA : Agree F w.heap) (h0 : SlF Read.t F v0 x0) (H : mounts_Bound x0 = some r) : Ret Try.prog 22 #[v0] w fun v w' => ∃ (F' : Frz), v = .int .i64 r ∧ St [] w F F' [] w' := by
 refine Ret_of (args := [v0]) Go.Proofs.Try.func22 rfl rfl ?_
 change C _ _ _ _ [(0, v0)] _
 have hS := St.entry hA
 dsimp only [mounts_Bound] at H
 refine C_seq ?_
 refine C_region ?_
 refine W_assign rfl rfl ?_
 refine W_nil ?_
 refine N_code ?_
 refine C_seq ?_
 obtain ⟨r1, hr1, H⟩ := bd_some H
 refine C_region ?_
 refine W_move rfl rfl ?_
 refine W_lenv rfl Go.Proofs.Try.underlying23 rfl h0.ln ?_
 refine W_move rfl rfl ?_
 refine W_call rfl Ty.named32 rfl (plan_Vols_ok hS.agree h0 hr1) ?_
 rintro ur1_0 w2 ⟨Fr1, _, rfl, hT2⟩
 have hS2 := hS.call hT2
 have ler1 := hT2.ext
 refine W_lenv rfl Go.Proofs.Try.underlying22 rfl (hS2.rowLn (k := 0) rfl) ?_
 refine W_add rfl rfl rfl rfl ?_
 refine W_assign rfl rfl ?_
 refine W_nil ?_
 refine N_code ?_
 obtain rfl := Option.some.inj H
 refine C_ret rfl rfl ?_
 exact ⟨Fr1, rfl, hS2.pick [] (by decide)⟩

def cellarerlaw22_wakes : Option Bool :=
  bd (mounts_Moves [(-1)] [(Read.mk 0 (Loc.mk 3 0 0 0))]) fun r3 =>
  bd (only (decide (r3.2 = 0) && decide ((r3.1.length : Int) = 2)) (ix r3.1 0) (Move.mk 0 0 0 (Loc.mk 0 0 0 0))) fun x5 =>
  bd (only ((decide (r3.2 = 0) && decide ((r3.1.length : Int) = 2)) && decide (x5.kind = 1)) (ix r3.1 0) (Move.mk 0 0 0 (Loc.mk 0 0 0 0))) fun x7 =>
  bd (only (((decide (r3.2 = 0) && decide ((r3.1.length : Int) = 2)) && decide (x5.kind = 1)) && decide (x7.vol = 3)) (ix r3.1 1) (Move.mk 0 0 0 (Loc.mk 0 0 0 0))) fun x9 =>
  bd (only ((((decide (r3.2 = 0) && decide ((r3.1.length : Int) = 2)) && decide (x5.kind = 1)) && decide (x7.vol = 3)) && decide (x9.kind = 2)) (mounts_Bound [(Read.mk 0 (Loc.mk 0 0 0 0)), (Read.mk 0 (Loc.mk 0 0 0 0))]) 0) fun r12 =>
  some (((((decide (r3.2 = 0) && decide ((r3.1.length : Int) = 2)) && decide (x5.kind = 1)) && decide (x7.vol = 3)) && decide (x9.kind = 2)) && decide (r12 = 3))

theorem cellarerlaw22_wakes_ok {F : Frz} {w : World} {r : Bool} (hA : Agree F w.heap) (H : cellarerlaw22_wakes = some r) : Ret Try.prog 23 #[] w fun v w' => ∃ (F' : Frz), v = .bool r ∧ St [] w F F' [] w' := by
 refine Ret_of (args := []) Go.Proofs.Try.func23 rfl rfl ?_
 change C _ _ _ _ [] _
 have hS := St.entry hA
 dsimp only [cellarerlaw22_wakes] at H
 refine C_seq ?_
 refine C_region ?_
 refine W_assign rfl rfl ?_
 refine W_nil ?_
 refine N_code ?_
 refine C_seq ?_
 obtain ⟨r3, hr3, H⟩ := bd_some H
 refine C_region ?_
 refine W_bs (t := tI) [[.int .i64 (-1)]] [(-1)] rfl Go.Proofs.Try.underlying22 Ty.cells3 rfl rfl Ty.zero3 rfl rfl ⟨rfl, trivial⟩ rfl rfl hS ?_
 intro u1 w1 hS1
 refine W_build (v := .agg (Loc.cells (Loc.mk 3 0 0 0)).toArray) rfl rfl (fun _ => by kernel_rfl) ?_
 refine W_build (v := .agg (Read.cells (Read.mk 0 (Loc.mk 3 0 0 0))).toArray) rfl rfl (fun _ => by kernel_rfl) ?_
 refine W_bs (t := Read.t) [(Read.cells (Read.mk 0 (Loc.mk 3 0 0 0)))] [(Read.mk 0 (Loc.mk 3 0 0 0))] rfl Go.Proofs.Try.underlying23 Ty.cells39 rfl rfl Ty.zero39 rfl rfl ⟨rfl, trivial⟩ rfl rfl hS1 ?_
 intro u2 w2 hS2
 refine W_call rfl Ty.named16 rfl (mounts_Moves_ok (now_agree _) (hS2.rowNow (k := 1) rfl) (hS2.rowNow (k := 0) rfl) hr3) ?_
 rintro v4 w4 ⟨Fr3, ur3_0, rfl, hT4⟩
 have hS4 := hS2.lentFlat hT4 ⟨fun h => h, trivial⟩
 refine W_move rfl rfl ?_
 refine W_extract rfl rfl rfl ?_
 refine W_extract rfl rfl rfl ?_
 refine W_assign rfl rfl ?_
 refine W_assign rfl rfl ?_
 refine W_nil ?_
 refine N_code ?_
 refine C_seq ?_
 obtain ⟨x5, hx5, H⟩ := bd_some H
 obtain ⟨x7, hx7, H⟩ := bd_some H
 obtain ⟨x9, hx9, H⟩ := bd_some H
 obtain ⟨r12, hr12, H⟩ := bd_some H
 refine C_join (fun E wq => E = [(0, .bool (((((decide (r3.2 = 0) && decide ((r3.1.length : Int) = 2)) && decide (x5.kind = 1)) && decide (x7.vol = 3)) && decide (x9.kind = 2)) && decide (r12 = 3)))] ∧ ∃ F13 : Frz, F.le F13 ∧ St [] w F F13 [.row Move.t 42 ur3_0 r3.1, .row Read.t 39 u2 [(Read.mk 0 (Loc.mk 3 0 0 0))], .row tI 3 u1 [(-1)]] wq) ?_ ?_
 ·
  rcases Bool.eq_false_or_eq_true (decide (r3.2 = 0)) with hb14 | hb14
  ·
   rcases Bool.eq_false_or_eq_true (decide ((r3.1.length : Int) = 2)) with hb15 | hb15
   ·
    rcases Bool.eq_false_or_eq_true (decide (x5.kind = 1)) with hb16 | hb16
    ·
     rcases Bool.eq_false_or_eq_true (decide (x7.vol = 3)) with hb17 | hb17
     ·
      rcases Bool.eq_false_or_eq_true (decide (x9.kind = 2)) with hb18 | hb18
      ·
       refine C_region ?_
       refine W_move rfl rfl ?_
       refine W_eql rfl rfl rfl ?_
       refine W_move rfl rfl ?_
       refine W_known (t := 13) true rfl hb14 ?_
       refine W_guard_yes rfl ?_
       refine W_move rfl rfl ?_
       refine W_guard_yes rfl ?_
       refine W_lenv rfl Go.Proofs.Try.underlying25 rfl (hS4.rowLn (k := 0) rfl) ?_
       refine W_guard_yes rfl ?_
       refine W_eql rfl rfl rfl ?_
       refine W_pick_t rfl rfl rfl ?_
       refine W_move rfl rfl ?_
       refine W_known (t := 18) true rfl hb15 ?_
       refine W_guard_yes rfl ?_
       refine W_move rfl rfl ?_
       refine W_guard_yes rfl ?_
       have hy19 := hx5
       rw [only_t (by first | rfl | (rw [hb15, hb14]; first | done | rfl) | simp [hb14, hb15, hb16, hb17, hb18])] at hy19
       obtain ⟨hp20, hy20⟩ := ix_some hy19
       obtain ⟨cs20, hr20, he20⟩ := hS4.rowAt (k := 0) rfl hy20
       obtain rfl := hr20
       replace he20 : El _ _ 7 _ _ := he20
       refine W_ix rfl Go.Proofs.Try.underlying25 Ty.cells42 Ty.info42 rfl rfl he20 hp20 rfl ?_
       refine W_guard_yes rfl ?_
       refine W_fld 0 rfl Ty.field42_0 rfl he20 ?_
       refine W_guard_yes rfl ?_
       refine W_ld1 0 rfl Ty.cell3 rfl he20 (by omega) rfl ?_
       refine W_guard_yes rfl ?_
       refine W_eql rfl rfl rfl ?_
       refine W_pick_t rfl rfl rfl ?_
       refine W_move rfl rfl ?_
       refine W_known (t := 25) true rfl hb16 ?_
       refine W_guard_yes rfl ?_
       refine W_move rfl rfl ?_
       refine W_guard_yes rfl ?_
       have hy21 := hx7
       rw [only_t (by first | rfl | (rw [hb15, hb16, hb14]; first | done | rfl) | simp [hb14, hb15, hb16, hb17, hb18])] at hy21
       obtain ⟨hp22, hy22⟩ := ix_some hy21
       obtain ⟨cs22, hr22, he22⟩ := hS4.rowAt (k := 0) rfl hy22
       obtain rfl := hr22
       replace he22 : El _ _ 7 _ _ := he22
       refine W_ix rfl Go.Proofs.Try.underlying25 Ty.cells42 Ty.info42 rfl rfl he22 hp22 rfl ?_
       refine W_guard_yes rfl ?_
       refine W_fld 2 rfl Ty.field42_2 rfl he22 ?_
       refine W_guard_yes rfl ?_
       refine W_ld1 2 rfl Ty.cell3 rfl he22 (by omega) rfl ?_
       refine W_guard_yes rfl ?_
       refine W_eql rfl rfl rfl ?_
       refine W_pick_t rfl rfl rfl ?_
       refine W_move rfl rfl ?_
       refine W_known (t := 32) true rfl hb17 ?_
       refine W_guard_yes rfl ?_
       refine W_move rfl rfl ?_
       refine W_guard_yes rfl ?_
       have hy23 := hx9
       rw [only_t (by first | rfl | (rw [hb15, hb16, hb17, hb14]; first | done | rfl) | simp [hb14, hb15, hb16, hb17, hb18])] at hy23
       obtain ⟨hp24, hy24⟩ := ix_some hy23
       obtain ⟨cs24, hr24, he24⟩ := hS4.rowAt (k := 0) rfl hy24
       obtain rfl := hr24
       replace he24 : El _ _ 7 _ _ := he24
       refine W_ix rfl Go.Proofs.Try.underlying25 Ty.cells42 Ty.info42 rfl rfl he24 hp24 rfl ?_
       refine W_guard_yes rfl ?_
       refine W_fld 0 rfl Ty.field42_0 rfl he24 ?_
       refine W_guard_yes rfl ?_
       refine W_ld1 0 rfl Ty.cell3 rfl he24 (by omega) rfl ?_
       refine W_guard_yes rfl ?_
       refine W_eql rfl rfl rfl ?_
       refine W_pick_t rfl rfl rfl ?_
       refine W_move rfl rfl ?_
       refine W_known (t := 39) true rfl hb18 ?_
       refine W_guard_yes rfl ?_
       refine W_build (v := .agg (Read.cells (Read.mk 0 (Loc.mk 0 0 0 0))).toArray) rfl rfl (fun _ => by kernel_rfl) ?_
       refine W_guard_yes rfl ?_
       refine W_build (v := .agg (Read.cells (Read.mk 0 (Loc.mk 0 0 0 0))).toArray) rfl rfl (fun _ => by kernel_rfl) ?_
       refine W_guard_yes rfl ?_
       refine W_bs (t := Read.t) [(Read.cells (Read.mk 0 (Loc.mk 0 0 0 0))), (Read.cells (Read.mk 0 (Loc.mk 0 0 0 0)))] [(Read.mk 0 (Loc.mk 0 0 0 0)), (Read.mk 0 (Loc.mk 0 0 0 0))] rfl Go.Proofs.Try.underlying23 Ty.cells39 rfl rfl Ty.zero39 rfl rfl ⟨rfl, ⟨rfl, trivial⟩⟩ rfl rfl hS4 ?_
       intro u11 w11 hS11
       refine W_guard_yes rfl ?_
       have hy25 := hr12
       rw [only_t (by first | rfl | (rw [hb15, hb16, hb18, hb17, hb14]; first | done | rfl) | simp [hb14, hb15, hb16, hb17, hb18])] at hy25
       refine W_call rfl Ty.named22 rfl (mounts_Bound_ok (now_agree _) (hS11.rowNow (k := 0) rfl) hy25) ?_
       rintro v26 w26 ⟨Fr12, rfl, hT26⟩
       have hS26 := hS11.lent hT26
       refine W_guard_yes rfl ?_
       refine W_eql rfl rfl rfl ?_
       refine W_pick_t rfl rfl rfl ?_
       refine W_assign rfl rfl ?_
       refine W_nil ?_
       exact N_join _ ⟨rfl, F, (Frz.le.refl _), hS26.pick [1, 2, 3] (by decide)⟩ ⟨(look_bool rfl (by first | rfl | (rw [hb15, hb16, hb18, hb17, hb14]; first | done | rfl) | simp [hb14, hb15, hb16, hb17, hb18])), trivial⟩
      ·
       refine C_region ?_
       refine W_move rfl rfl ?_
       refine W_eql rfl rfl rfl ?_
       refine W_move rfl rfl ?_
       refine W_known (t := 13) true rfl hb14 ?_
       refine W_guard_yes rfl ?_
       refine W_move rfl rfl ?_
       refine W_guard_yes rfl ?_
       refine W_lenv rfl Go.Proofs.Try.underlying25 rfl (hS4.rowLn (k := 0) rfl) ?_
       refine W_guard_yes rfl ?_
       refine W_eql rfl rfl rfl ?_
       refine W_pick_t rfl rfl rfl ?_
       refine W_move rfl rfl ?_
       refine W_known (t := 18) true rfl hb15 ?_
       refine W_guard_yes rfl ?_
       refine W_move rfl rfl ?_
       refine W_guard_yes rfl ?_
       have hy27 := hx5
       rw [only_t (by first | rfl | (rw [hb15, hb14]; first | done | rfl) | simp [hb14, hb15, hb16, hb17, hb18])] at hy27
       obtain ⟨hp28, hy28⟩ := ix_some hy27
       obtain ⟨cs28, hr28, he28⟩ := hS4.rowAt (k := 0) rfl hy28
       obtain rfl := hr28
       replace he28 : El _ _ 7 _ _ := he28
       refine W_ix rfl Go.Proofs.Try.underlying25 Ty.cells42 Ty.info42 rfl rfl he28 hp28 rfl ?_
       refine W_guard_yes rfl ?_
       refine W_fld 0 rfl Ty.field42_0 rfl he28 ?_
       refine W_guard_yes rfl ?_
       refine W_ld1 0 rfl Ty.cell3 rfl he28 (by omega) rfl ?_
       refine W_guard_yes rfl ?_
       refine W_eql rfl rfl rfl ?_
       refine W_pick_t rfl rfl rfl ?_
       refine W_move rfl rfl ?_
       refine W_known (t := 25) true rfl hb16 ?_
       refine W_guard_yes rfl ?_
       refine W_move rfl rfl ?_
       refine W_guard_yes rfl ?_
       have hy29 := hx7
       rw [only_t (by first | rfl | (rw [hb15, hb16, hb14]; first | done | rfl) | simp [hb14, hb15, hb16, hb17, hb18])] at hy29
       obtain ⟨hp30, hy30⟩ := ix_some hy29
       obtain ⟨cs30, hr30, he30⟩ := hS4.rowAt (k := 0) rfl hy30
       obtain rfl := hr30
       replace he30 : El _ _ 7 _ _ := he30
       refine W_ix rfl Go.Proofs.Try.underlying25 Ty.cells42 Ty.info42 rfl rfl he30 hp30 rfl ?_
       refine W_guard_yes rfl ?_
       refine W_fld 2 rfl Ty.field42_2 rfl he30 ?_
       refine W_guard_yes rfl ?_
       refine W_ld1 2 rfl Ty.cell3 rfl he30 (by omega) rfl ?_
       refine W_guard_yes rfl ?_
       refine W_eql rfl rfl rfl ?_
       refine W_pick_t rfl rfl rfl ?_
       refine W_move rfl rfl ?_
       refine W_known (t := 32) true rfl hb17 ?_
       refine W_guard_yes rfl ?_
       refine W_move rfl rfl ?_
       refine W_guard_yes rfl ?_
       have hy31 := hx9
       rw [only_t (by first | rfl | (rw [hb15, hb16, hb17, hb14]; first | done | rfl) | simp [hb14, hb15, hb16, hb17, hb18])] at hy31
       obtain ⟨hp32, hy32⟩ := ix_some hy31
       obtain ⟨cs32, hr32, he32⟩ := hS4.rowAt (k := 0) rfl hy32
       obtain rfl := hr32
       replace he32 : El _ _ 7 _ _ := he32
       refine W_ix rfl Go.Proofs.Try.underlying25 Ty.cells42 Ty.info42 rfl rfl he32 hp32 rfl ?_
       refine W_guard_yes rfl ?_
       refine W_fld 0 rfl Ty.field42_0 rfl he32 ?_
       refine W_guard_yes rfl ?_
       refine W_ld1 0 rfl Ty.cell3 rfl he32 (by omega) rfl ?_
       refine W_guard_yes rfl ?_
       refine W_eql rfl rfl rfl ?_
       refine W_pick_t rfl rfl rfl ?_
       refine W_move rfl rfl ?_
       refine W_known (t := 39) false rfl hb18 ?_
       refine W_guard_no rfl rfl rfl rfl rfl ?_
       refine W_guard_no rfl rfl rfl rfl rfl ?_
       refine W_guard_no rfl rfl rfl rfl rfl ?_
       refine W_guard_no rfl rfl rfl rfl rfl ?_
       refine W_guard_no rfl rfl rfl rfl rfl ?_
       refine W_pick_f rfl rfl rfl ?_
       refine W_assign rfl rfl ?_
       refine W_nil ?_
       exact N_join _ ⟨rfl, F, (Frz.le.refl _), hS4⟩ ⟨(look_bool rfl (by first | rfl | (rw [hb15, hb16, hb18, hb17, hb14]; first | done | rfl) | simp [hb14, hb15, hb16, hb17, hb18])), trivial⟩
     ·
      refine C_region ?_
      refine W_move rfl rfl ?_
      refine W_eql rfl rfl rfl ?_
      refine W_move rfl rfl ?_
      refine W_known (t := 13) true rfl hb14 ?_
      refine W_guard_yes rfl ?_
      refine W_move rfl rfl ?_
      refine W_guard_yes rfl ?_
      refine W_lenv rfl Go.Proofs.Try.underlying25 rfl (hS4.rowLn (k := 0) rfl) ?_
      refine W_guard_yes rfl ?_
      refine W_eql rfl rfl rfl ?_
      refine W_pick_t rfl rfl rfl ?_
      refine W_move rfl rfl ?_
      refine W_known (t := 18) true rfl hb15 ?_
      refine W_guard_yes rfl ?_
      refine W_move rfl rfl ?_
      refine W_guard_yes rfl ?_
      have hy33 := hx5
      rw [only_t (by first | rfl | (rw [hb15, hb14]; first | done | rfl) | simp [hb14, hb15, hb16, hb17])] at hy33
      obtain ⟨hp34, hy34⟩ := ix_some hy33
      obtain ⟨cs34, hr34, he34⟩ := hS4.rowAt (k := 0) rfl hy34
      obtain rfl := hr34
      replace he34 : El _ _ 7 _ _ := he34
      refine W_ix rfl Go.Proofs.Try.underlying25 Ty.cells42 Ty.info42 rfl rfl he34 hp34 rfl ?_
      refine W_guard_yes rfl ?_
      refine W_fld 0 rfl Ty.field42_0 rfl he34 ?_
      refine W_guard_yes rfl ?_
      refine W_ld1 0 rfl Ty.cell3 rfl he34 (by omega) rfl ?_
      refine W_guard_yes rfl ?_
      refine W_eql rfl rfl rfl ?_
      refine W_pick_t rfl rfl rfl ?_
      refine W_move rfl rfl ?_
      refine W_known (t := 25) true rfl hb16 ?_
      refine W_guard_yes rfl ?_
      refine W_move rfl rfl ?_
      refine W_guard_yes rfl ?_
      have hy35 := hx7
      rw [only_t (by first | rfl | (rw [hb15, hb16, hb14]; first | done | rfl) | simp [hb14, hb15, hb16, hb17])] at hy35
      obtain ⟨hp36, hy36⟩ := ix_some hy35
      obtain ⟨cs36, hr36, he36⟩ := hS4.rowAt (k := 0) rfl hy36
      obtain rfl := hr36
      replace he36 : El _ _ 7 _ _ := he36
      refine W_ix rfl Go.Proofs.Try.underlying25 Ty.cells42 Ty.info42 rfl rfl he36 hp36 rfl ?_
      refine W_guard_yes rfl ?_
      refine W_fld 2 rfl Ty.field42_2 rfl he36 ?_
      refine W_guard_yes rfl ?_
      refine W_ld1 2 rfl Ty.cell3 rfl he36 (by omega) rfl ?_
      refine W_guard_yes rfl ?_
      refine W_eql rfl rfl rfl ?_
      refine W_pick_t rfl rfl rfl ?_
      refine W_move rfl rfl ?_
      refine W_known (t := 32) false rfl hb17 ?_
      refine W_guard_no rfl rfl rfl rfl rfl ?_
      refine W_guard_no rfl rfl rfl rfl rfl ?_
      refine W_guard_no rfl rfl rfl rfl rfl ?_
      refine W_guard_no rfl rfl rfl rfl rfl ?_
      refine W_guard_no rfl rfl rfl rfl rfl ?_
      refine W_pick_f rfl rfl rfl ?_
      refine W_move rfl rfl ?_
      refine W_guard_no rfl rfl rfl rfl rfl ?_
      refine W_guard_no rfl rfl rfl rfl rfl ?_
      refine W_guard_no rfl rfl rfl rfl rfl ?_
      refine W_guard_no rfl rfl rfl rfl rfl ?_
      refine W_guard_no rfl rfl rfl rfl rfl ?_
      refine W_pick_f rfl rfl rfl ?_
      refine W_assign rfl rfl ?_
      refine W_nil ?_
      exact N_join _ ⟨rfl, F, (Frz.le.refl _), hS4⟩ ⟨(look_bool rfl (by first | rfl | (rw [hb15, hb16, hb17, hb14]; first | done | rfl) | simp [hb14, hb15, hb16, hb17])), trivial⟩
    ·
     refine C_region ?_
     refine W_move rfl rfl ?_
     refine W_eql rfl rfl rfl ?_
     refine W_move rfl rfl ?_
     refine W_known (t := 13) true rfl hb14 ?_
     refine W_guard_yes rfl ?_
     refine W_move rfl rfl ?_
     refine W_guard_yes rfl ?_
     refine W_lenv rfl Go.Proofs.Try.underlying25 rfl (hS4.rowLn (k := 0) rfl) ?_
     refine W_guard_yes rfl ?_
     refine W_eql rfl rfl rfl ?_
     refine W_pick_t rfl rfl rfl ?_
     refine W_move rfl rfl ?_
     refine W_known (t := 18) true rfl hb15 ?_
     refine W_guard_yes rfl ?_
     refine W_move rfl rfl ?_
     refine W_guard_yes rfl ?_
     have hy37 := hx5
     rw [only_t (by first | rfl | (rw [hb15, hb14]; first | done | rfl) | simp [hb14, hb15, hb16])] at hy37
     obtain ⟨hp38, hy38⟩ := ix_some hy37
     obtain ⟨cs38, hr38, he38⟩ := hS4.rowAt (k := 0) rfl hy38
     obtain rfl := hr38
     replace he38 : El _ _ 7 _ _ := he38
     refine W_ix rfl Go.Proofs.Try.underlying25 Ty.cells42 Ty.info42 rfl rfl he38 hp38 rfl ?_
     refine W_guard_yes rfl ?_
     refine W_fld 0 rfl Ty.field42_0 rfl he38 ?_
     refine W_guard_yes rfl ?_
     refine W_ld1 0 rfl Ty.cell3 rfl he38 (by omega) rfl ?_
     refine W_guard_yes rfl ?_
     refine W_eql rfl rfl rfl ?_
     refine W_pick_t rfl rfl rfl ?_
     refine W_move rfl rfl ?_
     refine W_known (t := 25) false rfl hb16 ?_
     refine W_guard_no rfl rfl rfl rfl rfl ?_
     refine W_guard_no rfl rfl rfl rfl rfl ?_
     refine W_guard_no rfl rfl rfl rfl rfl ?_
     refine W_guard_no rfl rfl rfl rfl rfl ?_
     refine W_guard_no rfl rfl rfl rfl rfl ?_
     refine W_pick_f rfl rfl rfl ?_
     refine W_move rfl rfl ?_
     refine W_guard_no rfl rfl rfl rfl rfl ?_
     refine W_guard_no rfl rfl rfl rfl rfl ?_
     refine W_guard_no rfl rfl rfl rfl rfl ?_
     refine W_guard_no rfl rfl rfl rfl rfl ?_
     refine W_guard_no rfl rfl rfl rfl rfl ?_
     refine W_pick_f rfl rfl rfl ?_
     refine W_move rfl rfl ?_
     refine W_guard_no rfl rfl rfl rfl rfl ?_
     refine W_guard_no rfl rfl rfl rfl rfl ?_
     refine W_guard_no rfl rfl rfl rfl rfl ?_
     refine W_guard_no rfl rfl rfl rfl rfl ?_
     refine W_guard_no rfl rfl rfl rfl rfl ?_
     refine W_pick_f rfl rfl rfl ?_
     refine W_assign rfl rfl ?_
     refine W_nil ?_
     exact N_join _ ⟨rfl, F, (Frz.le.refl _), hS4⟩ ⟨(look_bool rfl (by first | rfl | (rw [hb15, hb16, hb14]; first | done | rfl) | simp [hb14, hb15, hb16])), trivial⟩
   ·
    refine C_region ?_
    refine W_move rfl rfl ?_
    refine W_eql rfl rfl rfl ?_
    refine W_move rfl rfl ?_
    refine W_known (t := 13) true rfl hb14 ?_
    refine W_guard_yes rfl ?_
    refine W_move rfl rfl ?_
    refine W_guard_yes rfl ?_
    refine W_lenv rfl Go.Proofs.Try.underlying25 rfl (hS4.rowLn (k := 0) rfl) ?_
    refine W_guard_yes rfl ?_
    refine W_eql rfl rfl rfl ?_
    refine W_pick_t rfl rfl rfl ?_
    refine W_move rfl rfl ?_
    refine W_known (t := 18) false rfl hb15 ?_
    refine W_guard_no rfl rfl rfl rfl rfl ?_
    refine W_guard_no rfl rfl rfl rfl rfl ?_
    refine W_guard_no rfl rfl rfl rfl rfl ?_
    refine W_guard_no rfl rfl rfl rfl rfl ?_
    refine W_guard_no rfl rfl rfl rfl rfl ?_
    refine W_pick_f rfl rfl rfl ?_
    refine W_move rfl rfl ?_
    refine W_guard_no rfl rfl rfl rfl rfl ?_
    refine W_guard_no rfl rfl rfl rfl rfl ?_
    refine W_guard_no rfl rfl rfl rfl rfl ?_
    refine W_guard_no rfl rfl rfl rfl rfl ?_
    refine W_guard_no rfl rfl rfl rfl rfl ?_
    refine W_pick_f rfl rfl rfl ?_
    refine W_move rfl rfl ?_
    refine W_guard_no rfl rfl rfl rfl rfl ?_
    refine W_guard_no rfl rfl rfl rfl rfl ?_
    refine W_guard_no rfl rfl rfl rfl rfl ?_
    refine W_guard_no rfl rfl rfl rfl rfl ?_
    refine W_guard_no rfl rfl rfl rfl rfl ?_
    refine W_pick_f rfl rfl rfl ?_
    refine W_move rfl rfl ?_
    refine W_guard_no rfl rfl rfl rfl rfl ?_
    refine W_guard_no rfl rfl rfl rfl rfl ?_
    refine W_guard_no rfl rfl rfl rfl rfl ?_
    refine W_guard_no rfl rfl rfl rfl rfl ?_
    refine W_guard_no rfl rfl rfl rfl rfl ?_
    refine W_pick_f rfl rfl rfl ?_
    refine W_assign rfl rfl ?_
    refine W_nil ?_
    exact N_join _ ⟨rfl, F, (Frz.le.refl _), hS4⟩ ⟨(look_bool rfl (by first | rfl | (rw [hb15, hb14]; first | done | rfl) | simp [hb14, hb15])), trivial⟩
  ·
   refine C_region ?_
   refine W_move rfl rfl ?_
   refine W_eql rfl rfl rfl ?_
   refine W_move rfl rfl ?_
   refine W_known (t := 13) false rfl hb14 ?_
   refine W_guard_no rfl rfl rfl rfl rfl ?_
   refine W_guard_no rfl rfl rfl rfl rfl ?_
   refine W_guard_no rfl rfl rfl rfl rfl ?_
   refine W_pick_f rfl rfl rfl ?_
   refine W_move rfl rfl ?_
   refine W_guard_no rfl rfl rfl rfl rfl ?_
   refine W_guard_no rfl rfl rfl rfl rfl ?_
   refine W_guard_no rfl rfl rfl rfl rfl ?_
   refine W_guard_no rfl rfl rfl rfl rfl ?_
   refine W_guard_no rfl rfl rfl rfl rfl ?_
   refine W_pick_f rfl rfl rfl ?_
   refine W_move rfl rfl ?_
   refine W_guard_no rfl rfl rfl rfl rfl ?_
   refine W_guard_no rfl rfl rfl rfl rfl ?_
   refine W_guard_no rfl rfl rfl rfl rfl ?_
   refine W_guard_no rfl rfl rfl rfl rfl ?_
   refine W_guard_no rfl rfl rfl rfl rfl ?_
   refine W_pick_f rfl rfl rfl ?_
   refine W_move rfl rfl ?_
   refine W_guard_no rfl rfl rfl rfl rfl ?_
   refine W_guard_no rfl rfl rfl rfl rfl ?_
   refine W_guard_no rfl rfl rfl rfl rfl ?_
   refine W_guard_no rfl rfl rfl rfl rfl ?_
   refine W_guard_no rfl rfl rfl rfl rfl ?_
   refine W_pick_f rfl rfl rfl ?_
   refine W_move rfl rfl ?_
   refine W_guard_no rfl rfl rfl rfl rfl ?_
   refine W_guard_no rfl rfl rfl rfl rfl ?_
   refine W_guard_no rfl rfl rfl rfl rfl ?_
   refine W_guard_no rfl rfl rfl rfl rfl ?_
   refine W_guard_no rfl rfl rfl rfl rfl ?_
   refine W_pick_f rfl rfl rfl ?_
   refine W_assign rfl rfl ?_
   refine W_nil ?_
   exact N_join _ ⟨rfl, F, (Frz.le.refl _), hS4⟩ ⟨(look_bool rfl (by first | rfl | (rw [hb14]; first | done | rfl) | simp [hb14])), trivial⟩
 rintro E w13 ⟨rfl, F13, le13, hS13⟩
 refine N_code ?_
 obtain rfl := Option.some.inj H
 refine C_ret rfl rfl ?_
 exact ⟨F13, rfl, hS13.pick [] (by decide)⟩

def cellarerlaw22_count.k1 (i2 : Int) : Option Int :=
  some i2


def cellarerlaw22_count.k3 (i5 : Int) (rec6 : (Int × Int) → Option Int) (i9 : Int) : Option Int :=
  rec6 (i9, wr (i5 + 1))


def cellarerlaw22_count.l2 (x0 : List Move) (x1 : Int) (rec6 : (Int × Int) → Option Int) : (Int × Int) → Option Int
  | (i4, i5) =>
    if decide (i5 < (x0.length : Int)) then
      bd (ix x0 i5) fun x10 =>
      if decide (x10.kind = x1) then
        cellarerlaw22_count.k3 i5 rec6 (wr (i4 + 1))
      else
        cellarerlaw22_count.k3 i5 rec6 i4
    else
      cellarerlaw22_count.k1 i4

def cellarerlaw22_count (x0 : List Move) (x1 : Int) : Option Int :=
  loop (cellarerlaw22_count.l2 x0 x1) (0, 0)

theorem cellarerlaw22_count_ok {F : Frz} {w : World} {x0 : List Move} {x1 : Int} {r : Int} {v0 : Value} (hA : Agree F w.heap) (h0 : SlF Move.t F v0 x0) (H : cellarerlaw22_count x0 x1 = some r) : Ret Try.prog 25 #[v0, .int .i64 x1] w fun v w' => ∃ (F' : Frz), v = .int .i64 r ∧ St [] w F F' [] w' := by
 refine Ret_of (args := [v0, .int .i64 x1]) Go.Proofs.Try.func25 rfl rfl ?_
 change C _ _ _ _ [(0, v0), (1, .int .i64 x1)] _
 have hS := St.entry hA
 dsimp only [cellarerlaw22_count] at H
 refine C_seq ?_
 refine C_region ?_
 refine W_assign rfl rfl ?_
 refine W_nil ?_
 refine N_code ?_
 refine C_seq ?_
 refine C_region ?_
 refine W_assign rfl rfl ?_
 refine W_nil ?_
 refine N_code ?_
 refine C_seq_join (fun E wq => ∃ i2 : Int, cellarerlaw22_count.k1 i2 = some r ∧ ∃ (F1 : Frz), E = [(5, .int .i64 i2)] ∧ F.le F1 ∧ St [] w F F1 [] wq) ?_ ?_
 ·
  refine C_seq ?_
  refine C_region ?_
  refine W_assign rfl rfl ?_
  refine W_nil ?_
  refine N_code ?_
  refine C_block ?_
  refine C_loopM (fun (s : Int × Int) E wq => ∃ (F3 : Frz), E = [(0, v0), (1, .int .i64 x1), (5, .int .i64 s.1), (6, .int .i64 s.2)] ∧ F.le F3 ∧ St [] w F F3 [] wq) H ?_ ?_
  ·
   exact ⟨_, ⟨F, rfl, (Frz.le.refl _), hS⟩, ⟨rfl, rfl, rfl, rfl, trivial⟩⟩
  ·
   rintro rec6 ⟨i4, i5⟩ E w3 hI H
   try dsimp only at hI
   obtain ⟨F3, rfl, le3, hS3⟩ := hI
   dsimp only [cellarerlaw22_count.l2] at H
   refine C_seq ?_
   refine C_seq ?_
   refine C_region ?_
   refine W_move rfl rfl ?_
   refine W_move rfl rfl ?_
   refine W_lenv rfl Go.Proofs.Try.underlying25 rfl h0.ln ?_
   refine W_lss rfl rfl rfl ?_
   refine W_nil ?_
   refine N_code ?_
   refine C_cond rfl (fun hc7 => ?_) (fun hc7 => ?_)
   ·
    rw [if_t hc7] at H
    refine C_skip ?_
    refine N_code ?_
    refine C_seq_join (fun E wq => ∃ i9 : Int, cellarerlaw22_count.k3 i5 rec6 i9 = some r ∧ ∃ (F8 : Frz), E = [(0, v0), (1, .int .i64 x1), (5, .int .i64 i9), (6, .int .i64 i5)] ∧ F3.le F8 ∧ St [] w F F8 [] wq) ?_ ?_
    ·
     refine C_block ?_
     refine C_seq ?_
     obtain ⟨x10, hx10, H⟩ := bd_some H
     refine C_region ?_
     refine W_move rfl rfl ?_
     refine W_move rfl rfl ?_
     obtain ⟨hp12, hy12⟩ := ix_some hx10
     obtain ⟨cs12, hr12, he12⟩ := (h0.mono le3).at_ hy12
     obtain rfl := hr12
     replace he12 : Elf _ _ 7 _ _ := he12
     refine W_ix rfl Go.Proofs.Try.underlying25 Ty.cells42 Ty.info42 rfl rfl (he12.el hS3.agree) hp12 rfl ?_
     refine W_fld 0 rfl Ty.field42_0 rfl (he12.el hS3.agree) ?_
     refine W_ld1 0 rfl Ty.cell3 rfl (he12.el hS3.agree) (by omega) rfl ?_
     refine W_move rfl rfl ?_
     refine W_eql rfl rfl rfl ?_
     refine W_nil ?_
     refine N_code ?_
     refine C_cond rfl (fun hc13 => ?_) (fun hc13 => ?_)
     ·
      rw [if_t hc13] at H
      refine C_region ?_
      refine W_move rfl rfl ?_
      refine W_add rfl rfl rfl rfl ?_
      refine W_assign rfl rfl ?_
      refine W_nil ?_
      refine N_block ?_
      exact N_join _ ⟨wr (i4 + 1), H, ⟨F3, rfl, (Frz.le.refl _), hS3⟩⟩ ⟨rfl, rfl, rfl, rfl, trivial⟩
     ·
      rw [if_f hc13] at H
      refine C_skip ?_
      refine N_block ?_
      exact N_join _ ⟨i4, H, ⟨F3, rfl, (Frz.le.refl _), hS3⟩⟩ ⟨rfl, rfl, rfl, rfl, trivial⟩
    ·
     rintro E w8 ⟨i9, H, F8, rfl, le8, hS8⟩
     dsimp only [cellarerlaw22_count.k3] at H
     refine C_region ?_
     refine W_move rfl rfl ?_
     refine W_add rfl rfl rfl rfl ?_
     refine W_assign rfl rfl ?_
     refine W_nil ?_
     exact N_againM (i9, wr (i5 + 1)) _ H ⟨F8, rfl, (le3.trans le8), hS8⟩ ⟨rfl, rfl, rfl, rfl, trivial⟩
   ·
    rw [if_f hc7] at H
    refine C_exit _ rfl ?_
    exact N_join _ ⟨i4, H, ⟨F3, rfl, le3, hS3⟩⟩ ⟨rfl, trivial⟩
 ·
  rintro E w1 ⟨i2, H, F1, rfl, le1, hS1⟩
  dsimp only [cellarerlaw22_count.k1] at H
  refine C_seq ?_
  refine C_region ?_
  refine W_move rfl rfl ?_
  refine W_assign rfl rfl ?_
  refine W_nil ?_
  refine N_code ?_
  obtain rfl := Option.some.inj H
  refine C_ret rfl rfl ?_
  exact ⟨F1, rfl, hS1⟩

end Go.Wk.Lf
