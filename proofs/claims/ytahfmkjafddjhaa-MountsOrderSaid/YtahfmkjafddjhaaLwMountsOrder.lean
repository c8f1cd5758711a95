import Derived.Test.YtahfmkjafddjhaaMfB
namespace Go.Wk.Lf
open Go.Proofs Go.RowKit
set_option linter.unusedVariables false
set_option linter.unusedSimpArgs false

def cellarerlaw22_MountsOrder.k3 (r7 : (List Read) × (List Int)) (i19 : Int) : Option Bool :=
  bd (only (decide (i19 = (r7.1.length : Int))) (cellarerlaw22_wakes) false) fun r20 =>
  some (decide (i19 = (r7.1.length : Int)) && r20)


def cellarerlaw22_MountsOrder.k5 (i30 : Int) (rec33 : (Int × (List Loc) × Int × (List Int)) → Option Bool) (i36 : Int) (l37 : List Loc) (l40 : List Int) : Option Bool :=
  rec33 (i36, l37, wr (i30 + 1), l40)


def cellarerlaw22_MountsOrder.k7 (r9 : (List Move) × Int) (i26 : Int) (l27 : List Loc) (i30 : Int) (l31 : List Int) (rec33 : (Int × (List Loc) × Int × (List Int)) → Option Bool) : Option Bool :=
  bd (ix r9.1 i30) fun x44 =>
  bd (app (α := Loc) l27 [x44.loc]) fun l47 =>
  cellarerlaw22_MountsOrder.k5 i30 rec33 (wr (i26 + 1)) l47 l31


def cellarerlaw22_MountsOrder.l8 (r9 : (List Move) × Int) (i26 : Int) (l27 : List Loc) (i30 : Int) (l31 : List Int) (rec33 : (Int × (List Loc) × Int × (List Int)) → Option Bool) (rec52 : Int → Option Bool) : Int → Option Bool
  | i51 =>
    if decide (i51 < (l27.length : Int)) then
      bd (ix l27 i51) fun x54 =>
      bd (ix r9.1 i30) fun x56 =>
      bd (only (decide (x54.vol = x56.loc.vol)) (ix r9.1 i30) (Move.mk 0 0 0 (Loc.mk 0 0 0 0))) fun x58 =>
      bd (only (decide (x54.vol = x56.loc.vol)) (ix l27 i51) (Loc.mk 0 0 0 0)) fun x60 =>
      bd (only (decide (x54.vol = x56.loc.vol)) (plan_Ahead x58.loc x60) false) fun r62 =>
      if (decide (x54.vol = x56.loc.vol) && r62) then
        some false
      else
        rec52 (wr (i51 + 1))
    else
      cellarerlaw22_MountsOrder.k7 r9 i26 l27 i30 l31 rec33


def cellarerlaw22_MountsOrder.k6 (r9 : (List Move) × Int) (i26 : Int) (l27 : List Loc) (i30 : Int) (l31 : List Int) (rec33 : (Int × (List Loc) × Int × (List Int)) → Option Bool) : Option Bool :=
  loop (cellarerlaw22_MountsOrder.l8 r9 i26 l27 i30 l31 rec33) 0


def cellarerlaw22_MountsOrder.k9 (r9 : (List Move) × Int) (i26 : Int) (l27 : List Loc) (i30 : Int) (l31 : List Int) (rec33 : (Int × (List Loc) × Int × (List Int)) → Option Bool) : Option Bool :=
  bd (ix r9.1 i30) fun x129 =>
  bd (app (α := Int) l31 [x129.vol]) fun l132 =>
  cellarerlaw22_MountsOrder.k5 i30 rec33 i26 l27 l132


def cellarerlaw22_MountsOrder.l10 (r9 : (List Move) × Int) (i26 : Int) (l27 : List Loc) (i30 : Int) (l31 : List Int) (rec33 : (Int × (List Loc) × Int × (List Int)) → Option Bool) (rec137 : Int → Option Bool) : Int → Option Bool
  | i136 =>
    if decide (i136 < (l31.length : Int)) then
      bd (ix l31 i136) fun x139 =>
      bd (ix r9.1 i30) fun x141 =>
      if decide (x139 = x141.vol) then
        some false
      else
        rec137 (wr (i136 + 1))
    else
      cellarerlaw22_MountsOrder.k9 r9 i26 l27 i30 l31 rec33


def cellarerlaw22_MountsOrder.l4 (r7 : (List Read) × (List Int)) (r9 : (List Move) × Int) (rec33 : (Int × (List Loc) × Int × (List Int)) → Option Bool) : (Int × (List Loc) × Int × (List Int)) → Option Bool
  | (i26, l27, i30, l31) =>
    if decide (i30 < (r9.1.length : Int)) then
      bd (ix r9.1 i30) fun x124 =>
      if decide (x124.kind = 1) then
        loop (cellarerlaw22_MountsOrder.l10 r9 i26 l27 i30 l31 rec33) 0
      else
        cellarerlaw22_MountsOrder.k6 r9 i26 l27 i30 l31 rec33
    else
      cellarerlaw22_MountsOrder.k3 r7 i26


def cellarerlaw22_MountsOrder.k2 (x0 : List Int) (x1 : List Want) : Option Bool :=
  bd (plan_Order x1) fun r7 =>
  bd (mounts_Moves x0 r7.1) fun r9 =>
  if decide (r9.2 ≠ 0) then
    some false
  else
    bd (rep 0 0) fun l12 =>
    loop (cellarerlaw22_MountsOrder.l4 r7 r9) (0, [], 0, l12)


def cellarerlaw22_MountsOrder.k12 (i159 : Int) (rec160 : Int → Option Bool) : Option Bool :=
  rec160 (wr (i159 + 1))


def cellarerlaw22_MountsOrder.l13 (x1 : List Want) (i159 : Int) (rec160 : Int → Option Bool) (rec169 : Int → Option Bool) : Int → Option Bool
  | i168 =>
    bd (ix x1 i159) fun x170 =>
    if decide (i168 < (x170.locs.length : Int)) then
      bd (ix x1 i159) fun x174 =>
      bd (ix x174.locs i168) fun x176 =>
      if decide (x176.vol < 0) then
        some true
      else
        rec169 (wr (i168 + 1))
    else
      cellarerlaw22_MountsOrder.k12 i159 rec160


def cellarerlaw22_MountsOrder.l11 (x0 : List Int) (x1 : List Want) (rec160 : Int → Option Bool) : Int → Option Bool
  | i159 =>
    if decide (i159 < (x1.length : Int)) then
      bd (ix x1 i159) fun x163 =>
      if decide (20 < (x163.locs.length : Int)) then
        some true
      else
        loop (cellarerlaw22_MountsOrder.l13 x1 i159 rec160) 0
    else
      cellarerlaw22_MountsOrder.k2 x0 x1


def cellarerlaw22_MountsOrder.k1 (x0 : List Int) (x1 : List Want) : Option Bool :=
  loop (cellarerlaw22_MountsOrder.l11 x0 x1) 0


def cellarerlaw22_MountsOrder.k15 (i182 : Int) (rec183 : Int → Option Bool) : Option Bool :=
  rec183 (wr (i182 + 1))


def cellarerlaw22_MountsOrder.l16 (x0 : List Int) (i182 : Int) (rec183 : Int → Option Bool) (rec188 : Int → Option Bool) : Int → Option Bool
  | i187 =>
    if decide (i187 < i182) then
      bd (ix x0 i182) fun x190 =>
      bd (only (decide (0 ≤ x190)) (ix x0 i182) 0) fun x192 =>
      bd (only (decide (0 ≤ x190)) (ix x0 i187) 0) fun x194 =>
      if (decide (0 ≤ x190) && decide (x192 = x194)) then
        some true
      else
        rec188 (wr (i187 + 1))
    else
      cellarerlaw22_MountsOrder.k15 i182 rec183


def cellarerlaw22_MountsOrder.l14 (x0 : List Int) (x1 : List Want) (rec183 : Int → Option Bool) : Int → Option Bool
  | i182 =>
    if decide (i182 < (x0.length : Int)) then
      loop (cellarerlaw22_MountsOrder.l16 x0 i182 rec183) 0
    else
      cellarerlaw22_MountsOrder.k1 x0 x1

def cellarerlaw22_MountsOrder (x0 : List Int) (x1 : List Want) : Option Bool :=
  if ((decide ((x0.length : Int) < 1) || decide (4 < (x0.length : Int))) || decide (40 < (x1.length : Int))) then
    some true
  else
    loop (cellarerlaw22_MountsOrder.l14 x0 x1) 0

theorem cellarerlaw22_MountsOrder_ok {F : Frz} {w : World} {x0 : List Int} {x1 : List Want} {r : Bool} {v0 : Value} {v1 : Value} (hA : Agree F w.heap) (h0 : SlF tI F v0 x0) (h1 : SlF Want.t F v1 x1) (H : cellarerlaw22_MountsOrder x0 x1 = some r) : Ret Try.prog 14 #[v0, v1] w fun v w' => ∃ (F' : Frz), v = .bool r ∧ St [] w F F' [] w' := by
 refine Ret_of (args := [v0, v1]) Go.Proofs.Try.func14 rfl rfl ?_
 change C _ _ _ _ [(0, v0), (1, v1)] _
 have hS := St.entry hA
 dsimp only [cellarerlaw22_MountsOrder] at H
 refine C_seq ?_
 refine C_region ?_
 refine W_assign rfl rfl ?_
 refine W_nil ?_
 refine N_code ?_
 refine C_seq ?_
 refine C_seq ?_
 refine C_join (fun E wq => E = [(0, v0), (1, v1), (31, .bool ((decide ((x0.length : Int) < 1) || decide (4 < (x0.length : Int))) || decide (40 < (x1.length : Int))))] ∧ ∃ F1 : Frz, F.le F1 ∧ St [] w F F1 [] wq) ?_ ?_
 ·
  rcases Bool.eq_false_or_eq_true (decide ((x0.length : Int) < 1)) with hb2 | hb2
  ·
   refine C_region ?_
   refine W_move rfl rfl ?_
   refine W_lenv rfl Go.Proofs.Try.underlying22 rfl h0.ln ?_
   refine W_lss rfl rfl rfl ?_
   refine W_move rfl rfl ?_
   refine W_known (t := 22) true rfl hb2 ?_
   refine W_guard_no rfl rfl rfl rfl rfl ?_
   refine W_guard_no rfl rfl rfl rfl rfl ?_
   refine W_guard_no rfl rfl rfl rfl rfl ?_
   refine W_pick_t rfl rfl rfl ?_
   refine W_move rfl rfl ?_
   refine W_guard_no rfl rfl rfl rfl rfl ?_
   refine W_guard_no rfl rfl rfl rfl rfl ?_
   refine W_guard_no rfl rfl rfl rfl rfl ?_
   refine W_pick_t rfl rfl rfl ?_
   refine W_nil ?_
   exact N_join _ ⟨rfl, F, (Frz.le.refl _), hS⟩ ⟨rfl, rfl, (look_bool rfl (by first | rfl | (rw [hb2]; first | done | rfl) | simp [hb2])), trivial⟩
  ·
   rcases Bool.eq_false_or_eq_true (decide (4 < (x0.length : Int))) with hb3 | hb3
   ·
    refine C_region ?_
    refine W_move rfl rfl ?_
    refine W_lenv rfl Go.Proofs.Try.underlying22 rfl h0.ln ?_
    refine W_lss rfl rfl rfl ?_
    refine W_move rfl rfl ?_
    refine W_known (t := 22) false rfl hb2 ?_
    refine W_guard_yes rfl ?_
    refine W_move rfl rfl ?_
    refine W_guard_yes rfl ?_
    refine W_lenv rfl Go.Proofs.Try.underlying22 rfl h0.ln ?_
    refine W_guard_yes rfl ?_
    refine W_gtr rfl rfl rfl ?_
    refine W_pick_f rfl rfl rfl ?_
    refine W_move rfl rfl ?_
    refine W_known (t := 27) true rfl hb3 ?_
    refine W_guard_no rfl rfl rfl rfl rfl ?_
    refine W_guard_no rfl rfl rfl rfl rfl ?_
    refine W_guard_no rfl rfl rfl rfl rfl ?_
    refine W_pick_t rfl rfl rfl ?_
    refine W_nil ?_
    exact N_join _ ⟨rfl, F, (Frz.le.refl _), hS⟩ ⟨rfl, rfl, (look_bool rfl (by first | rfl | (rw [hb2, hb3]; first | done | rfl) | simp [hb2, hb3])), trivial⟩
   ·
    refine C_region ?_
    refine W_move rfl rfl ?_
    refine W_lenv rfl Go.Proofs.Try.underlying22 rfl h0.ln ?_
    refine W_lss rfl rfl rfl ?_
    refine W_move rfl rfl ?_
    refine W_known (t := 22) false rfl hb2 ?_
    refine W_guard_yes rfl ?_
    refine W_move rfl rfl ?_
    refine W_guard_yes rfl ?_
    refine W_lenv rfl Go.Proofs.Try.underlying22 rfl h0.ln ?_
    refine W_guard_yes rfl ?_
    refine W_gtr rfl rfl rfl ?_
    refine W_pick_f rfl rfl rfl ?_
    refine W_move rfl rfl ?_
    refine W_known (t := 27) false rfl hb3 ?_
    refine W_guard_yes rfl ?_
    refine W_move rfl rfl ?_
    refine W_guard_yes rfl ?_
    refine W_lenv rfl Go.Proofs.Try.underlying47 rfl h1.ln ?_
    refine W_guard_yes rfl ?_
    refine W_gtr rfl rfl rfl ?_
    refine W_pick_f rfl rfl rfl ?_
    refine W_nil ?_
    exact N_join _ ⟨rfl, F, (Frz.le.refl _), hS⟩ ⟨rfl, rfl, (look_bool rfl (by first | rfl | (rw [hb2, hb3]; first | done | rfl) | simp [hb2, hb3])), trivial⟩
 rintro E w1 ⟨rfl, F1, le1, hS1⟩
 refine N_code ?_
 refine C_cond rfl (fun hc4 => ?_) (fun hc4 => ?_)
 ·
  rw [if_t hc4] at H
  refine C_seq ?_
  refine C_region ?_
  refine W_assign rfl rfl ?_
  refine W_nil ?_
  refine N_code ?_
  obtain rfl := Option.some.inj H
  refine C_ret rfl rfl ?_
  exact ⟨F1, rfl, hS1⟩
 ·
  rw [if_f hc4] at H
  refine C_skip ?_
  refine N_code ?_
  refine C_seq_join (fun E wq => cellarerlaw22_MountsOrder.k1 x0 x1 = some r ∧ ∃ (F5 : Frz), E = [(0, v0), (1, v1)] ∧ F1.le F5 ∧ St [] w F F5 [] wq) ?_ ?_
  ·
   refine C_seq ?_
   refine C_region ?_
   refine W_assign rfl rfl ?_
   refine W_nil ?_
   refine N_code ?_
   refine C_block ?_
   refine C_loopM (fun (s : Int) E wq => ∃ (F181 : Frz), E = [(0, v0), (1, v1), (5, .int .i64 s)] ∧ F1.le F181 ∧ St [] w F F181 [] wq) H ?_ ?_
   ·
    exact ⟨_, ⟨F1, rfl, (Frz.le.refl _), hS1⟩, ⟨rfl, rfl, rfl, trivial⟩⟩
   ·
    rintro rec183 i182 E w181 hI H
    try dsimp only at hI
    obtain ⟨F181, rfl, le181, hS181⟩ := hI
    dsimp only [cellarerlaw22_MountsOrder.l14] at H
    refine C_seq ?_
    refine C_seq ?_
    refine C_region ?_
    refine W_move rfl rfl ?_
    refine W_move rfl rfl ?_
    refine W_lenv rfl Go.Proofs.Try.underlying22 rfl h0.ln ?_
    refine W_lss rfl rfl rfl ?_
    refine W_nil ?_
    refine N_code ?_
    refine C_cond rfl (fun hc184 => ?_) (fun hc184 => ?_)
    ·
     rw [if_t hc184] at H
     refine C_skip ?_
     refine N_code ?_
     refine C_seq_join (fun E wq => cellarerlaw22_MountsOrder.k15 i182 rec183 = some r ∧ ∃ (F185 : Frz), E = [(0, v0), (1, v1), (5, .int .i64 i182)] ∧ F181.le F185 ∧ St [] w F F185 [] wq) ?_ ?_
     ·
      refine C_block ?_
      refine C_seq ?_
      refine C_region ?_
      refine W_assign rfl rfl ?_
      refine W_nil ?_
      refine N_code ?_
      refine C_block ?_
      refine C_loopM (fun (s : Int) E wq => ∃ (F186 : Frz), E = [(0, v0), (1, v1), (5, .int .i64 i182), (6, .int .i64 s)] ∧ F181.le F186 ∧ St [] w F F186 [] wq) H ?_ ?_
      ·
       exact ⟨_, ⟨F181, rfl, (Frz.le.refl _), hS181⟩, ⟨rfl, rfl, rfl, rfl, trivial⟩⟩
      ·
       rintro rec188 i187 E w186 hI H
       try dsimp only at hI
       obtain ⟨F186, rfl, le186, hS186⟩ := hI
       dsimp only [cellarerlaw22_MountsOrder.l16] at H
       refine C_seq ?_
       refine C_seq ?_
       refine C_region ?_
       refine W_move rfl rfl ?_
       refine W_move rfl rfl ?_
       refine W_lss rfl rfl rfl ?_
       refine W_nil ?_
       refine N_code ?_
       refine C_cond rfl (fun hc189 => ?_) (fun hc189 => ?_)
       ·
        rw [if_t hc189] at H
        refine C_skip ?_
        refine N_code ?_
        refine C_seq ?_
        refine C_block ?_
        refine C_seq ?_
        obtain ⟨x190, hx190, H⟩ := bd_some H
        obtain ⟨x192, hx192, H⟩ := bd_some H
        obtain ⟨x194, hx194, H⟩ := bd_some H
        refine C_join (fun E wq => E = [(0, v0), (1, v1), (5, .int .i64 i182), (6, .int .i64 i187), (58, .bool (decide (0 ≤ x190) && decide (x192 = x194)))] ∧ ∃ F196 : Frz, F186.le F196 ∧ St [] w F F196 [] wq) ?_ ?_
        ·
         rcases Bool.eq_false_or_eq_true (decide (0 ≤ x190)) with hb197 | hb197
         ·
          obtain ⟨hp198, hy198⟩ := ix_some hx190
          obtain ⟨cs198, hr198, he198⟩ := (h0.mono ((le1.trans le181).trans le186)).at_ hy198
          obtain rfl := hr198
          replace he198 : Elf _ _ 1 _ _ := he198
          have hy199 := hx192
          rw [only_t hb197] at hy199
          obtain ⟨hp200, hy200⟩ := ix_some hy199
          obtain ⟨cs200, hr200, he200⟩ := (h0.mono ((le1.trans le181).trans le186)).at_ hy200
          obtain rfl := hr200
          replace he200 : Elf _ _ 1 _ _ := he200
          have hy201 := hx194
          rw [only_t hb197] at hy201
          obtain ⟨hp202, hy202⟩ := ix_some hy201
          obtain ⟨cs202, hr202, he202⟩ := (h0.mono ((le1.trans le181).trans le186)).at_ hy202
          obtain rfl := hr202
          replace he202 : Elf _ _ 1 _ _ := he202
          apply C_draw 15 [[], [], [0, 1], [2], [3], [4], [5], [5], [6, 7, 5], [8, 5], [5], [5], [10, 11, 5], [12, 5], [9, 13, 5]] [.val (v0), .val (.int .i64 i182), .val (elp v0 (i182.toNat * 1)), .val (.int .i64 x190), .val (.bool (decide (0 ≤ x190))), .val (.bool true), .val (v0), .val (.int .i64 i182), .val (elp v0 (i182.toNat * 1)), .val (.int .i64 x192), .val (v0), .val (.int .i64 i187), .val (elp v0 (i187.toNat * 1)), .val (.int .i64 x194), .val (.bool (decide (x192 = x194)))] Ty.mixed rfl rfl (by kernel_rfl) (by kernel_rfl) rfl
          ·
           refine ⟨?_, ?_, ?_, ?_, ?_, ?_, ?_, ?_, ?_, ?_, ?_, ?_, ?_, ?_, ?_, trivial⟩
           ·
            intro w203 vq203 hB203 hH203
            have hS203 := hS186.below hB203
            refine W_move rfl rfl ?_
            refine W_nil ?_
            exact N_step rfl rfl (Below.refl _ _)
           ·
            intro w204 vq204 hB204 hH204
            have hS204 := hS186.below hB204
            refine W_move rfl rfl ?_
            refine W_nil ?_
            exact N_step rfl rfl (Below.refl _ _)
           ·
            intro w205 vq205 hB205 hH205
            have hS205 := hS186.below hB205
            refine W_ix rfl Go.Proofs.Try.underlying22 Ty.cells3 Ty.info3 rfl rfl (he198.el hS205.agree) hp198 rfl ?_
            refine W_nil ?_
            exact N_step rfl rfl (Below.refl _ _)
           ·
            intro w206 vq206 hB206 hH206
            have hS206 := hS186.below hB206
            refine W_ld1 0 rfl Ty.cell3 rfl (he198.el hS206.agree) (by omega) rfl ?_
            refine W_nil ?_
            exact N_step rfl rfl (Below.refl _ _)
           ·
            intro w207 vq207 hB207 hH207
            have hS207 := hS186.below hB207
            refine W_geq rfl rfl rfl ?_
            refine W_nil ?_
            exact N_step rfl rfl (Below.refl _ _)
           ·
            intro w208 vq208 hB208 hH208
            have hS208 := hS186.below hB208
            refine W_move rfl rfl ?_
            refine W_nil ?_
            exact N_step rfl (congrArg Value.bool hb197) (Below.refl _ _)
           ·
            intro w209 vq209 hB209 hH209
            have hS209 := hS186.below hB209
            refine W_guard_yes rfl ?_
            refine W_move rfl rfl ?_
            refine W_nil ?_
            exact N_step rfl rfl (Below.refl _ _)
           ·
            intro w210 vq210 hB210 hH210
            have hS210 := hS186.below hB210
            refine W_guard_yes rfl ?_
            refine W_move rfl rfl ?_
            refine W_nil ?_
            exact N_step rfl rfl (Below.refl _ _)
           ·
            intro w211 vq211 hB211 hH211
            have hS211 := hS186.below hB211
            refine W_guard_yes rfl ?_
            refine W_ix rfl Go.Proofs.Try.underlying22 Ty.cells3 Ty.info3 rfl rfl (he200.el hS211.agree) hp200 rfl ?_
            refine W_nil ?_
            exact N_step rfl rfl (Below.refl _ _)
           ·
            intro w212 vq212 hB212 hH212
            have hS212 := hS186.below hB212
            refine W_guard_yes rfl ?_
            refine W_ld1 0 rfl Ty.cell3 rfl (he200.el hS212.agree) (by omega) rfl ?_
            refine W_nil ?_
            exact N_step rfl rfl (Below.refl _ _)
           ·
            intro w213 vq213 hB213 hH213
            have hS213 := hS186.below hB213
            refine W_guard_yes rfl ?_
            refine W_move rfl rfl ?_
            refine W_nil ?_
            exact N_step rfl rfl (Below.refl _ _)
           ·
            intro w214 vq214 hB214 hH214
            have hS214 := hS186.below hB214
            refine W_guard_yes rfl ?_
            refine W_move rfl rfl ?_
            refine W_nil ?_
            exact N_step rfl rfl (Below.refl _ _)
           ·
            intro w215 vq215 hB215 hH215
            have hS215 := hS186.below hB215
            refine W_guard_yes rfl ?_
            refine W_ix rfl Go.Proofs.Try.underlying22 Ty.cells3 Ty.info3 rfl rfl (he202.el hS215.agree) hp202 rfl ?_
            refine W_nil ?_
            exact N_step rfl rfl (Below.refl _ _)
           ·
            intro w216 vq216 hB216 hH216
            have hS216 := hS186.below hB216
            refine W_guard_yes rfl ?_
            refine W_ld1 0 rfl Ty.cell3 rfl (he202.el hS216.agree) (by omega) rfl ?_
            refine W_nil ?_
            exact N_step rfl rfl (Below.refl _ _)
           ·
            intro w217 vq217 hB217 hH217
            have hS217 := hS186.below hB217
            refine W_guard_yes rfl ?_
            refine W_eql rfl rfl rfl ?_
            refine W_nil ?_
            exact N_step rfl rfl (Below.refl _ _)
          intro w218 vq218 hB218 hH218
          have hS218 := hS186.below hB218
          refine W_pick_t rfl rfl rfl ?_
          refine W_nil ?_
          exact N_join _ ⟨rfl, F186, (Frz.le.refl _), hS218⟩ ⟨rfl, rfl, rfl, rfl, (look_bool rfl (by first | rfl | (rw [hb197]; first | done | rfl) | simp [hb197])), trivial⟩
         ·
          obtain ⟨hp219, hy219⟩ := ix_some hx190
          obtain ⟨cs219, hr219, he219⟩ := (h0.mono ((le1.trans le181).trans le186)).at_ hy219
          obtain rfl := hr219
          replace he219 : Elf _ _ 1 _ _ := he219
          apply C_draw 15 [[], [], [0, 1], [2], [3], [4], [5], [5], [6, 7, 5], [8, 5], [5], [5], [10, 11, 5], [12, 5], [9, 13, 5]] [.val (v0), .val (.int .i64 i182), .val (elp v0 (i182.toNat * 1)), .val (.int .i64 x190), .val (.bool (decide (0 ≤ x190))), .val (.bool false), .val undef, .val undef, .val undef, .val undef, .val undef, .val undef, .val undef, .val undef, .val undef] Ty.mixed rfl rfl (by kernel_rfl) (by kernel_rfl) rfl
          ·
           refine ⟨?_, ?_, ?_, ?_, ?_, ?_, ?_, ?_, ?_, ?_, ?_, ?_, ?_, ?_, ?_, trivial⟩
           ·
            intro w220 vq220 hB220 hH220
            have hS220 := hS186.below hB220
            refine W_move rfl rfl ?_
            refine W_nil ?_
            exact N_step rfl rfl (Below.refl _ _)
           ·
            intro w221 vq221 hB221 hH221
            have hS221 := hS186.below hB221
            refine W_move rfl rfl ?_
            refine W_nil ?_
            exact N_step rfl rfl (Below.refl _ _)
           ·
            intro w222 vq222 hB222 hH222
            have hS222 := hS186.below hB222
            refine W_ix rfl Go.Proofs.Try.underlying22 Ty.cells3 Ty.info3 rfl rfl (he219.el hS222.agree) hp219 rfl ?_
            refine W_nil ?_
            exact N_step rfl rfl (Below.refl _ _)
           ·
            intro w223 vq223 hB223 hH223
            have hS223 := hS186.below hB223
            refine W_ld1 0 rfl Ty.cell3 rfl (he219.el hS223.agree) (by omega) rfl ?_
            refine W_nil ?_
            exact N_step rfl rfl (Below.refl _ _)
           ·
            intro w224 vq224 hB224 hH224
            have hS224 := hS186.below hB224
            refine W_geq rfl rfl rfl ?_
            refine W_nil ?_
            exact N_step rfl rfl (Below.refl _ _)
           ·
            intro w225 vq225 hB225 hH225
            have hS225 := hS186.below hB225
            refine W_move rfl rfl ?_
            refine W_nil ?_
            exact N_step rfl (congrArg Value.bool hb197) (Below.refl _ _)
           ·
            intro w226 vq226 hB226 hH226
            have hS226 := hS186.below hB226
            refine W_guard_no rfl rfl rfl rfl rfl ?_
            refine W_nil ?_
            exact N_step rfl rfl (Below.refl _ _)
           ·
            intro w227 vq227 hB227 hH227
            have hS227 := hS186.below hB227
            refine W_guard_no rfl rfl rfl rfl rfl ?_
            refine W_nil ?_
            exact N_step rfl rfl (Below.refl _ _)
           ·
            intro w228 vq228 hB228 hH228
            have hS228 := hS186.below hB228
            refine W_guard_no rfl rfl rfl rfl rfl ?_
            refine W_nil ?_
            exact N_step rfl rfl (Below.refl _ _)
           ·
            intro w229 vq229 hB229 hH229
            have hS229 := hS186.below hB229
            refine W_guard_no rfl rfl rfl rfl rfl ?_
            refine W_nil ?_
            exact N_step rfl rfl (Below.refl _ _)
           ·
            intro w230 vq230 hB230 hH230
            have hS230 := hS186.below hB230
            refine W_guard_no rfl rfl rfl rfl rfl ?_
            refine W_nil ?_
            exact N_step rfl rfl (Below.refl _ _)
           ·
            intro w231 vq231 hB231 hH231
            have hS231 := hS186.below hB231
            refine W_guard_no rfl rfl rfl rfl rfl ?_
            refine W_nil ?_
            exact N_step rfl rfl (Below.refl _ _)
           ·
            intro w232 vq232 hB232 hH232
            have hS232 := hS186.below hB232
            refine W_guard_no rfl rfl rfl rfl rfl ?_
            refine W_nil ?_
            exact N_step rfl rfl (Below.refl _ _)
           ·
            intro w233 vq233 hB233 hH233
            have hS233 := hS186.below hB233
            refine W_guard_no rfl rfl rfl rfl rfl ?_
            refine W_nil ?_
            exact N_step rfl rfl (Below.refl _ _)
           ·
            intro w234 vq234 hB234 hH234
            have hS234 := hS186.below hB234
            refine W_guard_no rfl rfl rfl rfl rfl ?_
            refine W_nil ?_
            exact N_step rfl rfl (Below.refl _ _)
          intro w235 vq235 hB235 hH235
          have hS235 := hS186.below hB235
          refine W_pick_f rfl rfl rfl ?_
          refine W_nil ?_
          exact N_join _ ⟨rfl, F186, (Frz.le.refl _), hS235⟩ ⟨rfl, rfl, rfl, rfl, (look_bool rfl (by first | rfl | (rw [hb197]; first | done | rfl) | simp [hb197])), trivial⟩
        rintro E w196 ⟨rfl, F196, le196, hS196⟩
        refine N_code ?_
        refine C_cond rfl (fun hc236 => ?_) (fun hc236 => ?_)
        ·
         rw [if_t hc236] at H
         refine C_seq ?_
         refine C_region ?_
         refine W_assign rfl rfl ?_
         refine W_nil ?_
         refine N_code ?_
         obtain rfl := Option.some.inj H
         refine C_ret rfl rfl ?_
         exact ⟨F196, rfl, hS196⟩
        ·
         rw [if_f hc236] at H
         refine C_skip ?_
         refine N_block ?_
         refine N_code ?_
         refine C_region ?_
         refine W_move rfl rfl ?_
         refine W_add rfl rfl rfl rfl ?_
         refine W_assign rfl rfl ?_
         refine W_nil ?_
         exact N_againM (wr (i187 + 1)) _ H ⟨F196, rfl, (le186.trans le196), hS196⟩ ⟨rfl, rfl, rfl, rfl, trivial⟩
       ·
        rw [if_f hc189] at H
        refine C_exit _ rfl ?_
        refine N_block ?_
        exact N_join _ ⟨H, ⟨F186, rfl, le186, hS186⟩⟩ ⟨rfl, rfl, rfl, trivial⟩
     ·
      rintro E w185 ⟨H, F185, rfl, le185, hS185⟩
      dsimp only [cellarerlaw22_MountsOrder.k15] at H
      refine C_region ?_
      refine W_move rfl rfl ?_
      refine W_add rfl rfl rfl rfl ?_
      refine W_assign rfl rfl ?_
      refine W_nil ?_
      exact N_againM (wr (i182 + 1)) _ H ⟨F185, rfl, (le181.trans le185), hS185⟩ ⟨rfl, rfl, rfl, trivial⟩
    ·
     rw [if_f hc184] at H
     refine C_exit _ rfl ?_
     exact N_join _ ⟨H, ⟨F181, rfl, le181, hS181⟩⟩ ⟨rfl, rfl, trivial⟩
  ·
   rintro E w5 ⟨H, F5, rfl, le5, hS5⟩
   dsimp only [cellarerlaw22_MountsOrder.k1] at H
   refine C_seq_join (fun E wq => cellarerlaw22_MountsOrder.k2 x0 x1 = some r ∧ ∃ (F6 : Frz), E = [(0, v0), (1, v1)] ∧ F5.le F6 ∧ St [] w F F6 [] wq) ?_ ?_
   ·
    refine C_seq ?_
    refine C_region ?_
    refine W_assign rfl rfl ?_
    refine W_nil ?_
    refine N_code ?_
    refine C_block ?_
    refine C_loopM (fun (s : Int) E wq => ∃ (F158 : Frz), E = [(0, v0), (1, v1), (7, .int .i64 s)] ∧ F5.le F158 ∧ St [] w F F158 [] wq) H ?_ ?_
    ·
     exact ⟨_, ⟨F5, rfl, (Frz.le.refl _), hS5⟩, ⟨rfl, rfl, rfl, trivial⟩⟩
    ·
     rintro rec160 i159 E w158 hI H
     try dsimp only at hI
     obtain ⟨F158, rfl, le158, hS158⟩ := hI
     dsimp only [cellarerlaw22_MountsOrder.l11] at H
     refine C_seq ?_
     refine C_seq ?_
     refine C_region ?_
     refine W_move rfl rfl ?_
     refine W_move rfl rfl ?_
     refine W_lenv rfl Go.Proofs.Try.underlying47 rfl h1.ln ?_
     refine W_lss rfl rfl rfl ?_
     refine W_nil ?_
     refine N_code ?_
     refine C_cond rfl (fun hc161 => ?_) (fun hc161 => ?_)
     ·
      rw [if_t hc161] at H
      refine C_skip ?_
      refine N_code ?_
      refine C_seq_join (fun E wq => cellarerlaw22_MountsOrder.k12 i159 rec160 = some r ∧ ∃ (F162 : Frz), E = [(0, v0), (1, v1), (7, .int .i64 i159)] ∧ F158.le F162 ∧ St [] w F F162 [] wq) ?_ ?_
      ·
       refine C_block ?_
       refine C_seq ?_
       refine C_seq ?_
       obtain ⟨x163, hx163, H⟩ := bd_some H
       refine C_region ?_
       refine W_move rfl rfl ?_
       refine W_move rfl rfl ?_
       obtain ⟨hp165, hy165⟩ := ix_some hx163
       obtain ⟨cs165, hr165, he165⟩ := (h1.mono ((le1.trans le5).trans le158)).at_ hy165
       obtain ⟨ue164_0, rfl, hle164_0, hue164_0⟩ := hr165
       replace he165 : Elf _ _ 33 _ _ := he165
       refine W_ix rfl Go.Proofs.Try.underlying47 Ty.cells52 Ty.info52 rfl rfl (he165.el hS158.agree) hp165 rfl ?_
       refine W_fld 32 rfl Ty.field52_1 rfl (he165.el hS158.agree) ?_
       refine W_ld1 32 rfl Ty.cell49 rfl (he165.el hS158.agree) (by omega) rfl ?_
       refine W_lenv rfl Go.Proofs.Try.underlying49 rfl hue164_0.ln ?_
       refine W_gtr rfl rfl rfl ?_
       refine W_nil ?_
       refine N_code ?_
       refine C_cond rfl (fun hc166 => ?_) (fun hc166 => ?_)
       ·
        rw [if_t hc166] at H
        refine C_seq ?_
        refine C_region ?_
        refine W_assign rfl rfl ?_
        refine W_nil ?_
        refine N_code ?_
        obtain rfl := Option.some.inj H
        refine C_ret rfl rfl ?_
        exact ⟨F158, rfl, hS158⟩
       ·
        rw [if_f hc166] at H
        refine C_skip ?_
        refine N_code ?_
        refine C_seq ?_
        refine C_region ?_
        refine W_assign rfl rfl ?_
        refine W_nil ?_
        refine N_code ?_
        refine C_block ?_
        refine C_loopM (fun (s : Int) E wq => ∃ (F167 : Frz), E = [(0, v0), (1, v1), (7, .int .i64 i159), (8, .int .i64 s)] ∧ F158.le F167 ∧ St [] w F F167 [] wq) H ?_ ?_
        ·
         exact ⟨_, ⟨F158, rfl, (Frz.le.refl _), hS158⟩, ⟨rfl, rfl, rfl, rfl, trivial⟩⟩
        ·
         rintro rec169 i168 E w167 hI H
         try dsimp only at hI
         obtain ⟨F167, rfl, le167, hS167⟩ := hI
         dsimp only [cellarerlaw22_MountsOrder.l13] at H
         refine C_seq ?_
         refine C_seq ?_
         obtain ⟨x170, hx170, H⟩ := bd_some H
         refine C_region ?_
         refine W_move rfl rfl ?_
         refine W_move rfl rfl ?_
         refine W_move rfl rfl ?_
         obtain ⟨hp172, hy172⟩ := ix_some hx170
         obtain ⟨cs172, hr172, he172⟩ := (h1.mono (((le1.trans le5).trans le158).trans le167)).at_ hy172
         obtain ⟨ue171_0, rfl, hle171_0, hue171_0⟩ := hr172
         replace he172 : Elf _ _ 33 _ _ := he172
         refine W_ix rfl Go.Proofs.Try.underlying47 Ty.cells52 Ty.info52 rfl rfl (he172.el hS167.agree) hp172 rfl ?_
         refine W_fld 32 rfl Ty.field52_1 rfl (he172.el hS167.agree) ?_
         refine W_ld1 32 rfl Ty.cell49 rfl (he172.el hS167.agree) (by omega) rfl ?_
         refine W_lenv rfl Go.Proofs.Try.underlying49 rfl hue171_0.ln ?_
         refine W_lss rfl rfl rfl ?_
         refine W_nil ?_
         refine N_code ?_
         refine C_cond rfl (fun hc173 => ?_) (fun hc173 => ?_)
         ·
          rw [if_t hc173] at H
          refine C_skip ?_
          refine N_code ?_
          refine C_seq ?_
          refine C_block ?_
          refine C_seq ?_
          obtain ⟨x174, hx174, H⟩ := bd_some H
          obtain ⟨x176, hx176, H⟩ := bd_some H
          refine C_region ?_
          refine W_move rfl rfl ?_
          refine W_move rfl rfl ?_
          obtain ⟨hp178, hy178⟩ := ix_some hx174
          obtain ⟨cs178, hr178, he178⟩ := (h1.mono (((le1.trans le5).trans le158).trans le167)).at_ hy178
          obtain ⟨ue175_0, rfl, hle175_0, hue175_0⟩ := hr178
          replace he178 : Elf _ _ 33 _ _ := he178
          refine W_ix rfl Go.Proofs.Try.underlying47 Ty.cells52 Ty.info52 rfl rfl (he178.el hS167.agree) hp178 rfl ?_
          refine W_fld 32 rfl Ty.field52_1 rfl (he178.el hS167.agree) ?_
          refine W_ld1 32 rfl Ty.cell49 rfl (he178.el hS167.agree) (by omega) rfl ?_
          refine W_move rfl rfl ?_
          obtain ⟨hp179, hy179⟩ := ix_some hx176
          obtain ⟨cs179, hr179, he179⟩ := hue175_0.at_ hy179
          obtain rfl := hr179
          replace he179 : Elf _ _ 4 _ _ := he179
          refine W_ix rfl Go.Proofs.Try.underlying49 Ty.cells37 Ty.info37 rfl rfl (he179.el hS167.agree) hp179 rfl ?_
          refine W_fld 0 rfl Ty.field37_0 rfl (he179.el hS167.agree) ?_
          refine W_ld1 0 rfl Ty.cell3 rfl (he179.el hS167.agree) (by omega) rfl ?_
          refine W_lss rfl rfl rfl ?_
          refine W_nil ?_
          refine N_code ?_
          refine C_cond rfl (fun hc180 => ?_) (fun hc180 => ?_)
          ·
           rw [if_t hc180] at H
           refine C_seq ?_
           refine C_region ?_
           refine W_assign rfl rfl ?_
           refine W_nil ?_
           refine N_code ?_
           obtain rfl := Option.some.inj H
           refine C_ret rfl rfl ?_
           exact ⟨F167, rfl, hS167⟩
          ·
           rw [if_f hc180] at H
           refine C_skip ?_
           refine N_block ?_
           refine N_code ?_
           refine C_region ?_
           refine W_move rfl rfl ?_
           refine W_add rfl rfl rfl rfl ?_
           refine W_assign rfl rfl ?_
           refine W_nil ?_
           exact N_againM (wr (i168 + 1)) _ H ⟨F167, rfl, le167, hS167⟩ ⟨rfl, rfl, rfl, rfl, trivial⟩
         ·
          rw [if_f hc173] at H
          refine C_exit _ rfl ?_
          refine N_block ?_
          exact N_join _ ⟨H, ⟨F167, rfl, le167, hS167⟩⟩ ⟨rfl, rfl, rfl, trivial⟩
      ·
       rintro E w162 ⟨H, F162, rfl, le162, hS162⟩
       dsimp only [cellarerlaw22_MountsOrder.k12] at H
       refine C_region ?_
       refine W_move rfl rfl ?_
       refine W_add rfl rfl rfl rfl ?_
       refine W_assign rfl rfl ?_
       refine W_nil ?_
       exact N_againM (wr (i159 + 1)) _ H ⟨F162, rfl, (le158.trans le162), hS162⟩ ⟨rfl, rfl, rfl, trivial⟩
     ·
      rw [if_f hc161] at H
      refine C_exit _ rfl ?_
      exact N_join _ ⟨H, ⟨F158, rfl, le158, hS158⟩⟩ ⟨rfl, rfl, trivial⟩
   ·
    rintro E w6 ⟨H, F6, rfl, le6, hS6⟩
    dsimp only [cellarerlaw22_MountsOrder.k2] at H
    refine C_seq ?_
    obtain ⟨r7, hr7, H⟩ := bd_some H
    refine C_region ?_
    refine W_move rfl rfl ?_
    refine W_call rfl Ty.named27 rfl (plan_Order_ok hS6.agree (h1.mono ((le1.trans le5).trans le6)) hr7) ?_
    rintro v8 w8 ⟨Fr7, ur7_0, ur7_1, rfl, hT8⟩
    have hS8 := hS6.call hT8
    have ler7 := hT8.ext
    refine W_move rfl rfl ?_
    refine W_extract rfl rfl rfl ?_
    refine W_extract rfl rfl rfl ?_
    refine W_assign rfl rfl ?_
    refine W_assign rfl rfl ?_
    refine W_nil ?_
    refine N_code ?_
    refine C_seq ?_
    obtain ⟨r9, hr9, H⟩ := bd_some H
    refine C_region ?_
    refine W_move rfl rfl ?_
    refine W_move rfl rfl ?_
    refine W_call rfl Ty.named16 rfl (mounts_Moves_ok (now_agree _) ((h0.mono (((le1.trans le5).trans le6).trans ler7)).mono hS8.agree) (hS8.rowNow (k := 0) rfl) hr9) ?_
    rintro v10 w10 ⟨Fr9, ur9_0, rfl, hT10⟩
    have hS10 := hS8.lentFlat hT10 ⟨fun h => h, trivial⟩
    refine W_move rfl rfl ?_
    refine W_extract rfl rfl rfl ?_
    refine W_extract rfl rfl rfl ?_
    refine W_assign rfl rfl ?_
    refine W_assign rfl rfl ?_
    refine W_nil ?_
    refine N_code ?_
    refine C_seq ?_
    refine C_seq ?_
    refine C_region ?_
    refine W_move rfl rfl ?_
    refine W_neq rfl rfl rfl ?_
    refine W_nil ?_
    refine N_code ?_
    refine C_cond rfl (fun hc11 => ?_) (fun hc11 => ?_)
    ·
     rw [if_t hc11] at H
     refine C_seq ?_
     refine C_region ?_
     refine W_assign rfl rfl ?_
     refine W_nil ?_
     refine N_code ?_
     obtain rfl := Option.some.inj H
     refine C_ret rfl rfl ?_
     exact ⟨Fr7, rfl, hS10.pick [] (by decide)⟩
    ·
     rw [if_f hc11] at H
     refine C_skip ?_
     refine N_code ?_
     refine C_seq ?_
     obtain ⟨l12, hl12, H⟩ := bd_some H
     apply C_drawJ (fun D vs wz => ∀ (b0 : Bool), D 0 = b0 → match b0 with | false => ∃ FJ : Frz, Fr7.le FJ ∧ St [] w F FJ [.row Move.t 42 ur9_0 r9.1, .row Read.t 39 ur7_0 r7.1, .row tI 3 ur7_1 r7.2] wz | true => ∃ FJ : Frz, ∃ v13 : Value, vs 0 = v13 ∧ Fr7.le FJ ∧ St [] w F FJ [.row tI 3 v13 l12, .row Move.t 42 ur9_0 r9.1, .row Read.t 39 ur7_0 r7.1, .row tI 3 ur7_1 r7.2] wz) 2 [[], []] [none, some (.int .i64 0)] Ty.mixed rfl (by kernel_rfl) (by kernel_rfl) rfl
     ·
      intro vq14 b0 h0
      obtain rfl : b0 = false := h0.symm
      exact ⟨Fr7, (Frz.le.refl _), (hS10.below (below_drew _))⟩
     ·
      refine ⟨?_, ?_, trivial⟩
      ·
       intro w15 vq15 D15 hD15 hd15 hJ15
       obtain ⟨FJ15, leJ15, hSJ15⟩ := (hJ15 false hD15)
       refine W_mk (t := tI) (x0 := 0) rfl Go.Proofs.Try.underlying22 Ty.row3 rfl rfl rfl rfl hSJ15 rfl hl12 ?_
       intro v13 w13 hS13
       refine W_nil ?_
       exact N_stepJ rfl (fun u (hu : (none : Option Value) = some u) => by cases hu) (fun b0 h0 => by obtain rfl : b0 = true := h0.symm; exact ⟨FJ15, v13, rfl, leJ15, hS13⟩)
      ·
       intro w16 vq16 D16 hD16 hd16 hJ16
       refine W_assign rfl rfl ?_
       refine W_nil ?_
       exact N_stepJ rfl (fun u hu => Option.some.inj hu) hJ16
     intro w17 vq17 D17 hA17 hJ17
     obtain ⟨FJ17, v13, he17_0, leJ17, hSJ17⟩ := (hJ17 true (hA17 0 (by decide)))
     refine W_eqv (t := 105) rfl he17_0 ?_
     refine W_assign rfl rfl ?_
     refine W_nil ?_
     refine N_code ?_
     refine C_seq ?_
     refine C_region ?_
     refine W_assign rfl rfl ?_
     refine W_nil ?_
     refine N_code ?_
     refine C_seq_join (fun E wq => ∃ i19 : Int, cellarerlaw22_MountsOrder.k3 r7 i19 = some r ∧ ∃ (F18 : Frz), E = [(9, ur7_0), (13, .int .i64 i19)] ∧ FJ17.le F18 ∧ St [] w F F18 [.row Read.t 39 ur7_0 r7.1] wq) ?_ ?_
     ·
      refine C_seq ?_
      refine C_region ?_
      refine W_assign rfl rfl ?_
      refine W_nil ?_
      refine N_code ?_
      refine C_block ?_
      refine C_loopM (fun (s : Int × (List Loc) × Int × (List Int)) E wq => ∃ (F25 : Frz) (u28 : Value) (u32 : Value), E = [(9, ur7_0), (11, ur9_0), (13, .int .i64 s.1), (14, u32), (15, u28), (16, .int .i64 s.2.2.1)] ∧ FJ17.le F25 ∧ St [] w F F25 [.row tI 3 u32 s.2.2.2, .row Move.t 42 ur9_0 r9.1, .row Read.t 39 ur7_0 r7.1, .row Loc.t 37 u28 s.2.1] wq) H ?_ ?_
      ·
       have hS157 := hSJ17.nilRow Loc.t 37
       exact ⟨_, ⟨FJ17, (.slice none 0 0), v13, rfl, (Frz.le.refl _), hS157.pick [1, 2, 3, 0] (by decide)⟩, ⟨rfl, rfl, rfl, rfl, rfl, rfl, trivial⟩⟩
      ·
       rintro rec33 ⟨i26, l27, i30, l31⟩ E w25 hI H
       try dsimp only at hI
       obtain ⟨F25, u28, u32, rfl, le25, hS25⟩ := hI
       dsimp only [cellarerlaw22_MountsOrder.l4] at H
       refine C_seq ?_
       refine C_seq ?_
       refine C_region ?_
       refine W_move rfl rfl ?_
       refine W_move rfl rfl ?_
       refine W_lenv rfl Go.Proofs.Try.underlying25 rfl (hS25.rowLn (k := 1) rfl) ?_
       refine W_lss rfl rfl rfl ?_
       refine W_nil ?_
       refine N_code ?_
       refine C_cond rfl (fun hc34 => ?_) (fun hc34 => ?_)
       ·
        rw [if_t hc34] at H
        refine C_skip ?_
        refine N_code ?_
        refine C_seq_join (fun E wq => ∃ i36 : Int, ∃ l37 : List Loc, ∃ l40 : List Int, cellarerlaw22_MountsOrder.k5 i30 rec33 i36 l37 l40 = some r ∧ ∃ (F35 : Frz) (u38 : Value) (u41 : Value), E = [(9, ur7_0), (11, ur9_0), (13, .int .i64 i36), (14, u41), (15, u38), (16, .int .i64 i30)] ∧ F25.le F35 ∧ St [] w F F35 [.row tI 3 u41 l40, .row Move.t 42 ur9_0 r9.1, .row Read.t 39 ur7_0 r7.1, .row Loc.t 37 u38 l37] wq) ?_ ?_
        ·
         refine C_block ?_
         refine C_seq_join (fun E wq => cellarerlaw22_MountsOrder.k6 r9 i26 l27 i30 l31 rec33 = some r ∧ ∃ (F42 : Frz), E = [(9, ur7_0), (11, ur9_0), (13, .int .i64 i26), (14, u32), (15, u28), (16, .int .i64 i30)] ∧ F25.le F42 ∧ St [] w F F42 [.row tI 3 u32 l31, .row Move.t 42 ur9_0 r9.1, .row Read.t 39 ur7_0 r7.1, .row Loc.t 37 u28 l27] wq) ?_ ?_
         ·
          refine C_seq ?_
          obtain ⟨x124, hx124, H⟩ := bd_some H
          refine C_region ?_
          refine W_move rfl rfl ?_
          refine W_move rfl rfl ?_
          obtain ⟨hp126, hy126⟩ := ix_some hx124
          obtain ⟨cs126, hr126, he126⟩ := hS25.rowAt (k := 1) rfl hy126
          obtain rfl := hr126
          replace he126 : El _ _ 7 _ _ := he126
          refine W_ix rfl Go.Proofs.Try.underlying25 Ty.cells42 Ty.info42 rfl rfl he126 hp126 rfl ?_
          refine W_fld 0 rfl Ty.field42_0 rfl he126 ?_
          refine W_ld1 0 rfl Ty.cell3 rfl he126 (by omega) rfl ?_
          refine W_eql rfl rfl rfl ?_
          refine W_nil ?_
          refine N_code ?_
          refine C_cond rfl (fun hc127 => ?_) (fun hc127 => ?_)
          ·
           rw [if_t hc127] at H
           refine C_seq_join (fun E wq => cellarerlaw22_MountsOrder.k9 r9 i26 l27 i30 l31 rec33 = some r ∧ ∃ (F128 : Frz), E = [(9, ur7_0), (11, ur9_0), (13, .int .i64 i26), (14, u32), (15, u28), (16, .int .i64 i30)] ∧ F25.le F128 ∧ St [] w F F128 [.row tI 3 u32 l31, .row Move.t 42 ur9_0 r9.1, .row Read.t 39 ur7_0 r7.1, .row Loc.t 37 u28 l27] wq) ?_ ?_
           ·
            refine C_seq ?_
            refine C_region ?_
            refine W_assign rfl rfl ?_
            refine W_nil ?_
            refine N_code ?_
            refine C_block ?_
            refine C_loopM (fun (s : Int) E wq => ∃ (F135 : Frz), E = [(9, ur7_0), (11, ur9_0), (13, .int .i64 i26), (14, u32), (15, u28), (16, .int .i64 i30), (17, .int .i64 s)] ∧ F25.le F135 ∧ St [] w F F135 [.row tI 3 u32 l31, .row Move.t 42 ur9_0 r9.1, .row Read.t 39 ur7_0 r7.1, .row Loc.t 37 u28 l27] wq) H ?_ ?_
            ·
             exact ⟨_, ⟨F25, rfl, (Frz.le.refl _), hS25⟩, ⟨rfl, rfl, rfl, rfl, rfl, rfl, rfl, trivial⟩⟩
            ·
             rintro rec137 i136 E w135 hI H
             try dsimp only at hI
             obtain ⟨F135, rfl, le135, hS135⟩ := hI
             dsimp only [cellarerlaw22_MountsOrder.l10] at H
             refine C_seq ?_
             refine C_seq ?_
             refine C_region ?_
             refine W_move rfl rfl ?_
             refine W_move rfl rfl ?_
             refine W_lenv rfl Go.Proofs.Try.underlying22 rfl (hS135.rowLn (k := 0) rfl) ?_
             refine W_lss rfl rfl rfl ?_
             refine W_nil ?_
             refine N_code ?_
             refine C_cond rfl (fun hc138 => ?_) (fun hc138 => ?_)
             ·
              rw [if_t hc138] at H
              refine C_skip ?_
              refine N_code ?_
              refine C_seq ?_
              refine C_block ?_
              refine C_seq ?_
              obtain ⟨x139, hx139, H⟩ := bd_some H
              obtain ⟨x141, hx141, H⟩ := bd_some H
              obtain ⟨hp143, hy143⟩ := ix_some hx139
              obtain ⟨cs143, hr143, he143⟩ := hS135.rowAt (k := 0) rfl hy143
              obtain rfl := hr143
              replace he143 : El _ _ 1 _ _ := he143
              obtain ⟨hp144, hy144⟩ := ix_some hx141
              obtain ⟨cs144, hr144, he144⟩ := hS135.rowAt (k := 1) rfl hy144
              obtain rfl := hr144
              replace he144 : El _ _ 7 _ _ := he144
              apply C_draw 9 [[], [], [0, 1], [2], [], [], [4, 5], [6], [7]] [.val (u32), .val (.int .i64 i136), .val (elp u32 (i136.toNat * 1)), .val (.int .i64 x139), .val (ur9_0), .val (.int .i64 i30), .val (elp ur9_0 (i30.toNat * 7)), .val (elp ur9_0 ((i30.toNat * 7) + 2)), .val (.int .i64 x141.vol)] Ty.mixed rfl rfl (by kernel_rfl) (by kernel_rfl) rfl
              ·
               refine ⟨?_, ?_, ?_, ?_, ?_, ?_, ?_, ?_, ?_, trivial⟩
               ·
                intro w145 vq145 hB145 hH145
                have hS145 := hS135.below hB145
                refine W_move rfl rfl ?_
                refine W_nil ?_
                exact N_step rfl rfl (Below.refl _ _)
               ·
                intro w146 vq146 hB146 hH146
                have hS146 := hS135.below hB146
                refine W_move rfl rfl ?_
                refine W_nil ?_
                exact N_step rfl rfl (Below.refl _ _)
               ·
                intro w147 vq147 hB147 hH147
                have hS147 := hS135.below hB147
                refine W_ix rfl Go.Proofs.Try.underlying22 Ty.cells3 Ty.info3 rfl rfl (he143.below hB147) hp143 rfl ?_
                refine W_nil ?_
                exact N_step rfl rfl (Below.refl _ _)
               ·
                intro w148 vq148 hB148 hH148
                have hS148 := hS135.below hB148
                refine W_ld1 0 rfl Ty.cell3 rfl (he143.below hB148) (by omega) rfl ?_
                refine W_nil ?_
                exact N_step rfl rfl (Below.refl _ _)
               ·
                intro w149 vq149 hB149 hH149
                have hS149 := hS135.below hB149
                refine W_move rfl rfl ?_
                refine W_nil ?_
                exact N_step rfl rfl (Below.refl _ _)
               ·
                intro w150 vq150 hB150 hH150
                have hS150 := hS135.below hB150
                refine W_move rfl rfl ?_
                refine W_nil ?_
                exact N_step rfl rfl (Below.refl _ _)
               ·
                intro w151 vq151 hB151 hH151
                have hS151 := hS135.below hB151
                refine W_ix rfl Go.Proofs.Try.underlying25 Ty.cells42 Ty.info42 rfl rfl (he144.below hB151) hp144 rfl ?_
                refine W_nil ?_
                exact N_step rfl rfl (Below.refl _ _)
               ·
                intro w152 vq152 hB152 hH152
                have hS152 := hS135.below hB152
                refine W_fld 2 rfl Ty.field42_2 rfl (he144.below hB152) ?_
                refine W_nil ?_
                exact N_step rfl rfl (Below.refl _ _)
               ·
                intro w153 vq153 hB153 hH153
                have hS153 := hS135.below hB153
                refine W_ld1 2 rfl Ty.cell3 rfl (he144.below hB153) (by omega) rfl ?_
                refine W_nil ?_
                exact N_step rfl rfl (Below.refl _ _)
              intro w154 vq154 hB154 hH154
              have hS154 := hS135.below hB154
              refine W_eql rfl rfl rfl ?_
              refine W_nil ?_
              refine N_code ?_
              refine C_cond rfl (fun hc155 => ?_) (fun hc155 => ?_)
              ·
               rw [if_t hc155] at H
               refine C_seq ?_
               refine C_region ?_
               refine W_assign rfl rfl ?_
               refine W_nil ?_
               refine N_code ?_
               obtain rfl := Option.some.inj H
               refine C_ret rfl rfl ?_
               exact ⟨F135, rfl, hS154.pick [] (by decide)⟩
              ·
               rw [if_f hc155] at H
               refine C_skip ?_
               refine N_block ?_
               refine N_code ?_
               refine C_region ?_
               refine W_move rfl rfl ?_
               refine W_add rfl rfl rfl rfl ?_
               refine W_assign rfl rfl ?_
               refine W_nil ?_
               exact N_againM (wr (i136 + 1)) _ H ⟨F135, rfl, le135, hS154⟩ ⟨rfl, rfl, rfl, rfl, rfl, rfl, rfl, trivial⟩
             ·
              rw [if_f hc138] at H
              refine C_exit _ rfl ?_
              exact N_join _ ⟨H, ⟨F135, rfl, le135, hS135⟩⟩ ⟨rfl, rfl, rfl, rfl, rfl, rfl, trivial⟩
           ·
            rintro E w128 ⟨H, F128, rfl, le128, hS128⟩
            dsimp only [cellarerlaw22_MountsOrder.k9] at H
            refine C_seq ?_
            obtain ⟨x129, hx129, H⟩ := bd_some H
            obtain ⟨l132, hl132, H⟩ := bd_some H
            refine C_region ?_
            refine W_move rfl rfl ?_
            refine W_move rfl rfl ?_
            refine W_move rfl rfl ?_
            obtain ⟨hp134, hy134⟩ := ix_some hx129
            obtain ⟨cs134, hr134, he134⟩ := hS128.rowAt (k := 1) rfl hy134
            obtain rfl := hr134
            replace he134 : El _ _ 7 _ _ := he134
            refine W_ix rfl Go.Proofs.Try.underlying25 Ty.cells42 Ty.info42 rfl rfl he134 hp134 rfl ?_
            refine W_fld 2 rfl Ty.field42_2 rfl he134 ?_
            refine W_ld1 2 rfl Ty.cell3 rfl he134 (by omega) rfl ?_
            refine W_bs (t := tI) [[.int .i64 x129.vol]] [x129.vol] rfl Go.Proofs.Try.underlying22 Ty.cells3 rfl rfl Ty.zero3 rfl rfl ⟨rfl, trivial⟩ rfl rfl hS128 ?_
            intro u131 w131 hS131
            refine W_appM 1 rfl Go.Proofs.Try.underlying22 Ty.row3 rfl rfl rfl rfl rfl hS131 rfl (hS131.rowSrc (j := 0) rfl) hl132 ?_
            intro v133 w133 hS133
            refine W_assign rfl rfl ?_
            refine W_nil ?_
            refine N_code ?_
            refine C_exit _ rfl ?_
            exact N_join _ ⟨i26, l27, l132, H, ⟨F128, u28, v133, rfl, le128, hS133.pick [1, 2, 3, 4] (by decide)⟩⟩ ⟨rfl, rfl, rfl, rfl, rfl, rfl, trivial⟩
          ·
           rw [if_f hc127] at H
           refine C_skip ?_
           exact N_join _ ⟨H, ⟨F25, rfl, (Frz.le.refl _), hS25⟩⟩ ⟨rfl, rfl, rfl, rfl, rfl, rfl, trivial⟩
         ·
          rintro E w42 ⟨H, F42, rfl, le42, hS42⟩
          dsimp only [cellarerlaw22_MountsOrder.k6] at H
          refine C_seq ?_
          refine C_region ?_
          refine W_move rfl rfl ?_
          refine W_add rfl rfl rfl rfl ?_
          refine W_assign rfl rfl ?_
          refine W_nil ?_
          refine N_code ?_
          refine C_seq_join (fun E wq => cellarerlaw22_MountsOrder.k7 r9 i26 l27 i30 l31 rec33 = some r ∧ ∃ (F43 : Frz), E = [(9, ur7_0), (11, ur9_0), (13, .int .i64 (wr (i26 + 1))), (14, u32), (15, u28), (16, .int .i64 i30)] ∧ F42.le F43 ∧ St [] w F F43 [.row tI 3 u32 l31, .row Move.t 42 ur9_0 r9.1, .row Read.t 39 ur7_0 r7.1, .row Loc.t 37 u28 l27] wq) ?_ ?_
          ·
           refine C_seq ?_
           refine C_region ?_
           refine W_assign rfl rfl ?_
           refine W_nil ?_
           refine N_code ?_
           refine C_block ?_
           refine C_loopM (fun (s : Int) E wq => ∃ (F50 : Frz), E = [(9, ur7_0), (11, ur9_0), (13, .int .i64 (wr (i26 + 1))), (14, u32), (15, u28), (16, .int .i64 i30), (18, .int .i64 s)] ∧ F42.le F50 ∧ St [] w F F50 [.row tI 3 u32 l31, .row Move.t 42 ur9_0 r9.1, .row Read.t 39 ur7_0 r7.1, .row Loc.t 37 u28 l27] wq) H ?_ ?_
           ·
            exact ⟨_, ⟨F42, rfl, (Frz.le.refl _), hS42⟩, ⟨rfl, rfl, rfl, rfl, rfl, rfl, rfl, trivial⟩⟩
           ·
            rintro rec52 i51 E w50 hI H
            try dsimp only at hI
            obtain ⟨F50, rfl, le50, hS50⟩ := hI
            dsimp only [cellarerlaw22_MountsOrder.l8] at H
            refine C_seq ?_
            refine C_seq ?_
            refine C_region ?_
            refine W_move rfl rfl ?_
            refine W_move rfl rfl ?_
            refine W_lenv rfl Go.Proofs.Try.underlying49 rfl (hS50.rowLn (k := 3) rfl) ?_
            refine W_lss rfl rfl rfl ?_
            refine W_nil ?_
            refine N_code ?_
            refine C_cond rfl (fun hc53 => ?_) (fun hc53 => ?_)
            ·
             rw [if_t hc53] at H
             refine C_skip ?_
             refine N_code ?_
             refine C_seq ?_
             refine C_block ?_
             refine C_seq ?_
             obtain ⟨x54, hx54, H⟩ := bd_some H
             obtain ⟨x56, hx56, H⟩ := bd_some H
             obtain ⟨x58, hx58, H⟩ := bd_some H
             obtain ⟨x60, hx60, H⟩ := bd_some H
             obtain ⟨r62, hr62, H⟩ := bd_some H
             refine C_join (fun E wq => E = [(9, ur7_0), (11, ur9_0), (13, .int .i64 (wr (i26 + 1))), (14, u32), (15, u28), (16, .int .i64 i30), (18, .int .i64 i51), (173, .bool (decide (x54.vol = x56.loc.vol) && r62))] ∧ ∃ F63 : Frz, F50.le F63 ∧ St [] w F F63 [.row tI 3 u32 l31, .row Move.t 42 ur9_0 r9.1, .row Read.t 39 ur7_0 r7.1, .row Loc.t 37 u28 l27] wq) ?_ ?_
             ·
              rcases Bool.eq_false_or_eq_true (decide (x54.vol = x56.loc.vol)) with hb64 | hb64
              ·
               obtain ⟨hp65, hy65⟩ := ix_some hx54
               obtain ⟨cs65, hr65, he65⟩ := hS50.rowAt (k := 3) rfl hy65
               obtain rfl := hr65
               replace he65 : El _ _ 4 _ _ := he65
               obtain ⟨hp66, hy66⟩ := ix_some hx56
               obtain ⟨cs66, hr66, he66⟩ := hS50.rowAt (k := 1) rfl hy66
               obtain rfl := hr66
               replace he66 : El _ _ 7 _ _ := he66
               have hy67 := hx58
               rw [only_t hb64] at hy67
               obtain ⟨hp68, hy68⟩ := ix_some hy67
               obtain ⟨cs68, hr68, he68⟩ := hS50.rowAt (k := 1) rfl hy68
               obtain rfl := hr68
               replace he68 : El _ _ 7 _ _ := he68
               have hy69 := hx60
               rw [only_t hb64] at hy69
               obtain ⟨hp70, hy70⟩ := ix_some hy69
               obtain ⟨cs70, hr70, he70⟩ := hS50.rowAt (k := 3) rfl hy70
               obtain rfl := hr70
               replace he70 : El _ _ 4 _ _ := he70
               apply C_draw 23 [[], [], [0, 1], [2], [3], [], [], [5, 6], [7], [8], [9], [4, 10], [11], [12], [12], [13, 14, 12], [15, 12], [16, 12], [12], [12], [18, 19, 12], [20, 12], [17, 21, 12]] [.val (u28), .val (.int .i64 i51), .val (elp u28 (i51.toNat * 4)), .val (elp u28 ((i51.toNat * 4) + 0)), .val (.int .i64 x54.vol), .val (ur9_0), .val (.int .i64 i30), .val (elp ur9_0 (i30.toNat * 7)), .val (elp ur9_0 ((i30.toNat * 7) + 3)), .val (elp ur9_0 (((i30.toNat * 7) + 3) + 0)), .val (.int .i64 x56.loc.vol), .val (.bool (decide (x54.vol = x56.loc.vol))), .val (.bool true), .val (ur9_0), .val (.int .i64 i30), .val (elp ur9_0 (i30.toNat * 7)), .val (elp ur9_0 ((i30.toNat * 7) + 3)), .val (.agg (Loc.cells x58.loc).toArray), .val (u28), .val (.int .i64 i51), .val (elp u28 (i51.toNat * 4)), .val (.agg (Loc.cells x60).toArray), .val (.bool r62)] Ty.mixed rfl rfl (by kernel_rfl) (by kernel_rfl) rfl
               ·
                refine ⟨?_, ?_, ?_, ?_, ?_, ?_, ?_, ?_, ?_, ?_, ?_, ?_, ?_, ?_, ?_, ?_, ?_, ?_, ?_, ?_, ?_, ?_, ?_, trivial⟩
                ·
                 intro w71 vq71 hB71 hH71
                 have hS71 := hS50.below hB71
                 refine W_move rfl rfl ?_
                 refine W_nil ?_
                 exact N_step rfl rfl (Below.refl _ _)
                ·
                 intro w72 vq72 hB72 hH72
                 have hS72 := hS50.below hB72
                 refine W_move rfl rfl ?_
                 refine W_nil ?_
                 exact N_step rfl rfl (Below.refl _ _)
                ·
                 intro w73 vq73 hB73 hH73
                 have hS73 := hS50.below hB73
                 refine W_ix rfl Go.Proofs.Try.underlying49 Ty.cells37 Ty.info37 rfl rfl (he65.below hB73) hp65 rfl ?_
                 refine W_nil ?_
                 exact N_step rfl rfl (Below.refl _ _)
                ·
                 intro w74 vq74 hB74 hH74
                 have hS74 := hS50.below hB74
                 refine W_fld 0 rfl Ty.field37_0 rfl (he65.below hB74) ?_
                 refine W_nil ?_
                 exact N_step rfl rfl (Below.refl _ _)
                ·
                 intro w75 vq75 hB75 hH75
                 have hS75 := hS50.below hB75
                 refine W_ld1 0 rfl Ty.cell3 rfl (he65.below hB75) (by omega) rfl ?_
                 refine W_nil ?_
                 exact N_step rfl rfl (Below.refl _ _)
                ·
                 intro w76 vq76 hB76 hH76
                 have hS76 := hS50.below hB76
                 refine W_move rfl rfl ?_
                 refine W_nil ?_
                 exact N_step rfl rfl (Below.refl _ _)
                ·
                 intro w77 vq77 hB77 hH77
                 have hS77 := hS50.below hB77
                 refine W_move rfl rfl ?_
                 refine W_nil ?_
                 exact N_step rfl rfl (Below.refl _ _)
                ·
                 intro w78 vq78 hB78 hH78
                 have hS78 := hS50.below hB78
                 refine W_ix rfl Go.Proofs.Try.underlying25 Ty.cells42 Ty.info42 rfl rfl (he66.below hB78) hp66 rfl ?_
                 refine W_nil ?_
                 exact N_step rfl rfl (Below.refl _ _)
                ·
                 intro w79 vq79 hB79 hH79
                 have hS79 := hS50.below hB79
                 refine W_fld 3 rfl Ty.field42_3 rfl (he66.below hB79) ?_
                 refine W_nil ?_
                 exact N_step rfl rfl (Below.refl _ _)
                ·
                 intro w80 vq80 hB80 hH80
                 have hS80 := hS50.below hB80
                 refine W_fld 0 rfl Ty.field37_0 rfl (he66.below hB80) ?_
                 refine W_nil ?_
                 exact N_step rfl rfl (Below.refl _ _)
                ·
                 intro w81 vq81 hB81 hH81
                 have hS81 := hS50.below hB81
                 refine W_ld1 3 rfl Ty.cell3 rfl (he66.below hB81) (by omega) rfl ?_
                 refine W_nil ?_
                 exact N_step rfl rfl (Below.refl _ _)
                ·
                 intro w82 vq82 hB82 hH82
                 have hS82 := hS50.below hB82
                 refine W_eql rfl rfl rfl ?_
                 refine W_nil ?_
                 exact N_step rfl rfl (Below.refl _ _)
                ·
                 intro w83 vq83 hB83 hH83
                 have hS83 := hS50.below hB83
                 refine W_move rfl rfl ?_
                 refine W_nil ?_
                 exact N_step rfl (congrArg Value.bool hb64) (Below.refl _ _)
                ·
                 intro w84 vq84 hB84 hH84
                 have hS84 := hS50.below hB84
                 refine W_guard_yes rfl ?_
                 refine W_move rfl rfl ?_
                 refine W_nil ?_
                 exact N_step rfl rfl (Below.refl _ _)
                ·
                 intro w85 vq85 hB85 hH85
                 have hS85 := hS50.below hB85
                 refine W_guard_yes rfl ?_
                 refine W_move rfl rfl ?_
                 refine W_nil ?_
                 exact N_step rfl rfl (Below.refl _ _)
                ·
                 intro w86 vq86 hB86 hH86
                 have hS86 := hS50.below hB86
                 refine W_guard_yes rfl ?_
                 refine W_ix rfl Go.Proofs.Try.underlying25 Ty.cells42 Ty.info42 rfl rfl (he68.below hB86) hp68 rfl ?_
                 refine W_nil ?_
                 exact N_step rfl rfl (Below.refl _ _)
                ·
                 intro w87 vq87 hB87 hH87
                 have hS87 := hS50.below hB87
                 refine W_guard_yes rfl ?_
                 refine W_fld 3 rfl Ty.field42_3 rfl (he68.below hB87) ?_
                 refine W_nil ?_
                 exact N_step rfl rfl (Below.refl _ _)
                ·
                 intro w88 vq88 hB88 hH88
                 have hS88 := hS50.below hB88
                 refine W_guard_yes rfl ?_
                 refine W_ldg 3 ((Loc.cells x58.loc)) rfl Ty.agg37 Ty.size37 rfl (he68.below hB88) (by omega) (fun q u h => sub_at (post := []) rfl h) ?_
                 refine W_nil ?_
                 exact N_step rfl rfl (Below.refl _ _)
                ·
                 intro w89 vq89 hB89 hH89
                 have hS89 := hS50.below hB89
                 refine W_guard_yes rfl ?_
                 refine W_move rfl rfl ?_
                 refine W_nil ?_
                 exact N_step rfl rfl (Below.refl _ _)
                ·
                 intro w90 vq90 hB90 hH90
                 have hS90 := hS50.below hB90
                 refine W_guard_yes rfl ?_
                 refine W_move rfl rfl ?_
                 refine W_nil ?_
                 exact N_step rfl rfl (Below.refl _ _)
                ·
                 intro w91 vq91 hB91 hH91
                 have hS91 := hS50.below hB91
                 refine W_guard_yes rfl ?_
                 refine W_ix rfl Go.Proofs.Try.underlying49 Ty.cells37 Ty.info37 rfl rfl (he70.below hB91) hp70 rfl ?_
                 refine W_nil ?_
                 exact N_step rfl rfl (Below.refl _ _)
                ·
                 intro w92 vq92 hB92 hH92
                 have hS92 := hS50.below hB92
                 refine W_guard_yes rfl ?_
                 refine W_ldg 0 ((Loc.cells x60)) rfl Ty.agg37 Ty.size37 rfl (he70.below hB92) (by omega) (fun q u h => sub_at (post := []) rfl h) ?_
                 refine W_nil ?_
                 exact N_step rfl rfl (Below.refl _ _)
                ·
                 intro w93 vq93 hB93 hH93
                 have hS93 := hS50.below hB93
                 refine W_guard_yes rfl ?_
                 have hy94 := hr62
                 rw [only_t hb64] at hy94
                 refine W_call rfl Ty.named31 rfl (plan_Ahead_ok hS93.agree hy94) ?_
                 rintro v95 w95 ⟨Fr62, rfl, hT95⟩
                 have hS95 := hS93.lent hT95
                 refine W_nil ?_
                 exact N_step rfl rfl hT95.below0
               intro w96 vq96 hB96 hH96
               have hS96 := hS50.below hB96
               refine W_pick_t rfl rfl rfl ?_
               refine W_nil ?_
               exact N_join _ ⟨rfl, F50, (Frz.le.refl _), hS96⟩ ⟨rfl, rfl, rfl, rfl, rfl, rfl, rfl, (look_bool rfl (by first | rfl | (rw [hb64]; first | done | rfl) | simp [hb64])), trivial⟩
              ·
               obtain ⟨hp97, hy97⟩ := ix_some hx54
               obtain ⟨cs97, hr97, he97⟩ := hS50.rowAt (k := 3) rfl hy97
               obtain rfl := hr97
               replace he97 : El _ _ 4 _ _ := he97
               obtain ⟨hp98, hy98⟩ := ix_some hx56
               obtain ⟨cs98, hr98, he98⟩ := hS50.rowAt (k := 1) rfl hy98
               obtain rfl := hr98
               replace he98 : El _ _ 7 _ _ := he98
               apply C_draw 23 [[], [], [0, 1], [2], [3], [], [], [5, 6], [7], [8], [9], [4, 10], [11], [12], [12], [13, 14, 12], [15, 12], [16, 12], [12], [12], [18, 19, 12], [20, 12], [17, 21, 12]] [.val (u28), .val (.int .i64 i51), .val (elp u28 (i51.toNat * 4)), .val (elp u28 ((i51.toNat * 4) + 0)), .val (.int .i64 x54.vol), .val (ur9_0), .val (.int .i64 i30), .val (elp ur9_0 (i30.toNat * 7)), .val (elp ur9_0 ((i30.toNat * 7) + 3)), .val (elp ur9_0 (((i30.toNat * 7) + 3) + 0)), .val (.int .i64 x56.loc.vol), .val (.bool (decide (x54.vol = x56.loc.vol))), .val (.bool false), .val undef, .val undef, .val undef, .val undef, .val undef, .val undef, .val undef, .val undef, .val undef, .val undef] Ty.mixed rfl rfl (by kernel_rfl) (by kernel_rfl) rfl
               ·
                refine ⟨?_, ?_, ?_, ?_, ?_, ?_, ?_, ?_, ?_, ?_, ?_, ?_, ?_, ?_, ?_, ?_, ?_, ?_, ?_, ?_, ?_, ?_, ?_, trivial⟩
                ·
                 intro w99 vq99 hB99 hH99
                 have hS99 := hS50.below hB99
                 refine W_move rfl rfl ?_
                 refine W_nil ?_
                 exact N_step rfl rfl (Below.refl _ _)
                ·
                 intro w100 vq100 hB100 hH100
                 have hS100 := hS50.below hB100
                 refine W_move rfl rfl ?_
                 refine W_nil ?_
                 exact N_step rfl rfl (Below.refl _ _)
                ·
                 intro w101 vq101 hB101 hH101
                 have hS101 := hS50.below hB101
                 refine W_ix rfl Go.Proofs.Try.underlying49 Ty.cells37 Ty.info37 rfl rfl (he97.below hB101) hp97 rfl ?_
                 refine W_nil ?_
                 exact N_step rfl rfl (Below.refl _ _)
                ·
                 intro w102 vq102 hB102 hH102
                 have hS102 := hS50.below hB102
                 refine W_fld 0 rfl Ty.field37_0 rfl (he97.below hB102) ?_
                 refine W_nil ?_
                 exact N_step rfl rfl (Below.refl _ _)
                ·
                 intro w103 vq103 hB103 hH103
                 have hS103 := hS50.below hB103
                 refine W_ld1 0 rfl Ty.cell3 rfl (he97.below hB103) (by omega) rfl ?_
                 refine W_nil ?_
                 exact N_step rfl rfl (Below.refl _ _)
                ·
                 intro w104 vq104 hB104 hH104
                 have hS104 := hS50.below hB104
                 refine W_move rfl rfl ?_
                 refine W_nil ?_
                 exact N_step rfl rfl (Below.refl _ _)
                ·
                 intro w105 vq105 hB105 hH105
                 have hS105 := hS50.below hB105
                 refine W_move rfl rfl ?_
                 refine W_nil ?_
                 exact N_step rfl rfl (Below.refl _ _)
                ·
                 intro w106 vq106 hB106 hH106
                 have hS106 := hS50.below hB106
                 refine W_ix rfl Go.Proofs.Try.underlying25 Ty.cells42 Ty.info42 rfl rfl (he98.below hB106) hp98 rfl ?_
                 refine W_nil ?_
                 exact N_step rfl rfl (Below.refl _ _)
                ·
                 intro w107 vq107 hB107 hH107
                 have hS107 := hS50.below hB107
                 refine W_fld 3 rfl Ty.field42_3 rfl (he98.below hB107) ?_
                 refine W_nil ?_
                 exact N_step rfl rfl (Below.refl _ _)
                ·
                 intro w108 vq108 hB108 hH108
                 have hS108 := hS50.below hB108
                 refine W_fld 0 rfl Ty.field37_0 rfl (he98.below hB108) ?_
                 refine W_nil ?_
                 exact N_step rfl rfl (Below.refl _ _)
                ·
                 intro w109 vq109 hB109 hH109
                 have hS109 := hS50.below hB109
                 refine W_ld1 3 rfl Ty.cell3 rfl (he98.below hB109) (by omega) rfl ?_
                 refine W_nil ?_
                 exact N_step rfl rfl (Below.refl _ _)
                ·
                 intro w110 vq110 hB110 hH110
                 have hS110 := hS50.below hB110
                 refine W_eql rfl rfl rfl ?_
                 refine W_nil ?_
                 exact N_step rfl rfl (Below.refl _ _)
                ·
                 intro w111 vq111 hB111 hH111
                 have hS111 := hS50.below hB111
                 refine W_move rfl rfl ?_
                 refine W_nil ?_
                 exact N_step rfl (congrArg Value.bool hb64) (Below.refl _ _)
                ·
                 intro w112 vq112 hB112 hH112
                 have hS112 := hS50.below hB112
                 refine W_guard_no rfl rfl rfl rfl rfl ?_
                 refine W_nil ?_
                 exact N_step rfl rfl (Below.refl _ _)
                ·
                 intro w113 vq113 hB113 hH113
                 have hS113 := hS50.below hB113
                 refine W_guard_no rfl rfl rfl rfl rfl ?_
                 refine W_nil ?_
                 exact N_step rfl rfl (Below.refl _ _)
                ·
                 intro w114 vq114 hB114 hH114
                 have hS114 := hS50.below hB114
                 refine W_guard_no rfl rfl rfl rfl rfl ?_
                 refine W_nil ?_
                 exact N_step rfl rfl (Below.refl _ _)
                ·
                 intro w115 vq115 hB115 hH115
                 have hS115 := hS50.below hB115
                 refine W_guard_no rfl rfl rfl rfl rfl ?_
                 refine W_nil ?_
                 exact N_step rfl rfl (Below.refl _ _)
                ·
                 intro w116 vq116 hB116 hH116
                 have hS116 := hS50.below hB116
                 refine W_guard_no rfl rfl rfl rfl rfl ?_
                 refine W_nil ?_
                 exact N_step rfl rfl (Below.refl _ _)
                ·
                 intro w117 vq117 hB117 hH117
                 have hS117 := hS50.below hB117
                 refine W_guard_no rfl rfl rfl rfl rfl ?_
                 refine W_nil ?_
                 exact N_step rfl rfl (Below.refl _ _)
                ·
                 intro w118 vq118 hB118 hH118
                 have hS118 := hS50.below hB118
                 refine W_guard_no rfl rfl rfl rfl rfl ?_
                 refine W_nil ?_
                 exact N_step rfl rfl (Below.refl _ _)
                ·
                 intro w119 vq119 hB119 hH119
                 have hS119 := hS50.below hB119
                 refine W_guard_no rfl rfl rfl rfl rfl ?_
                 refine W_nil ?_
                 exact N_step rfl rfl (Below.refl _ _)
                ·
                 intro w120 vq120 hB120 hH120
                 have hS120 := hS50.below hB120
                 refine W_guard_no rfl rfl rfl rfl rfl ?_
                 refine W_nil ?_
                 exact N_step rfl rfl (Below.refl _ _)
                ·
                 intro w121 vq121 hB121 hH121
                 have hS121 := hS50.below hB121
                 refine W_guard_no rfl rfl rfl rfl rfl ?_
                 refine W_nil ?_
                 exact N_step rfl rfl (Below.refl _ _)
               intro w122 vq122 hB122 hH122
               have hS122 := hS50.below hB122
               refine W_pick_f rfl rfl rfl ?_
               refine W_nil ?_
               exact N_join _ ⟨rfl, F50, (Frz.le.refl _), hS122⟩ ⟨rfl, rfl, rfl, rfl, rfl, rfl, rfl, (look_bool rfl (by first | rfl | (rw [hb64]; first | done | rfl) | simp [hb64])), trivial⟩
             rintro E w63 ⟨rfl, F63, le63, hS63⟩
             refine N_code ?_
             refine C_cond rfl (fun hc123 => ?_) (fun hc123 => ?_)
             ·
              rw [if_t hc123] at H
              refine C_seq ?_
              refine C_region ?_
              refine W_assign rfl rfl ?_
              refine W_nil ?_
              refine N_code ?_
              obtain rfl := Option.some.inj H
              refine C_ret rfl rfl ?_
              exact ⟨F63, rfl, hS63.pick [] (by decide)⟩
             ·
              rw [if_f hc123] at H
              refine C_skip ?_
              refine N_block ?_
              refine N_code ?_
              refine C_region ?_
              refine W_move rfl rfl ?_
              refine W_add rfl rfl rfl rfl ?_
              refine W_assign rfl rfl ?_
              refine W_nil ?_
              exact N_againM (wr (i51 + 1)) _ H ⟨F63, rfl, (le50.trans le63), hS63⟩ ⟨rfl, rfl, rfl, rfl, rfl, rfl, rfl, trivial⟩
            ·
             rw [if_f hc53] at H
             refine C_exit _ rfl ?_
             exact N_join _ ⟨H, ⟨F50, rfl, le50, hS50⟩⟩ ⟨rfl, rfl, rfl, rfl, rfl, rfl, trivial⟩
          ·
           rintro E w43 ⟨H, F43, rfl, le43, hS43⟩
           dsimp only [cellarerlaw22_MountsOrder.k7] at H
           obtain ⟨x44, hx44, H⟩ := bd_some H
           obtain ⟨l47, hl47, H⟩ := bd_some H
           refine C_region ?_
           refine W_move rfl rfl ?_
           refine W_move rfl rfl ?_
           refine W_move rfl rfl ?_
           obtain ⟨hp49, hy49⟩ := ix_some hx44
           obtain ⟨cs49, hr49, he49⟩ := hS43.rowAt (k := 1) rfl hy49
           obtain rfl := hr49
           replace he49 : El _ _ 7 _ _ := he49
           refine W_ix rfl Go.Proofs.Try.underlying25 Ty.cells42 Ty.info42 rfl rfl he49 hp49 rfl ?_
           refine W_fld 3 rfl Ty.field42_3 rfl he49 ?_
           refine W_ldg 3 ((Loc.cells x44.loc)) rfl Ty.agg37 Ty.size37 rfl he49 (by omega) (fun q u h => sub_at (post := []) rfl h) ?_
           refine W_bs (t := Loc.t) [(Loc.cells x44.loc)] [x44.loc] rfl Go.Proofs.Try.underlying49 Ty.cells37 rfl rfl Ty.zero37 rfl rfl ⟨rfl, trivial⟩ rfl rfl hS43 ?_
           intro u46 w46 hS46
           refine W_appM 4 rfl Go.Proofs.Try.underlying49 Ty.row37 rfl rfl rfl rfl rfl hS46 rfl (hS46.rowSrc (j := 0) rfl) hl47 ?_
           intro v48 w48 hS48
           refine W_assign rfl rfl ?_
           refine W_nil ?_
           refine N_block ?_
           exact N_join _ ⟨wr (i26 + 1), l47, l31, H, ⟨F43, v48, u32, rfl, (le42.trans le43), hS48.pick [1, 2, 3, 4] (by decide)⟩⟩ ⟨rfl, rfl, rfl, rfl, rfl, rfl, trivial⟩
        ·
         rintro E w35 ⟨i36, l37, l40, H, F35, u38, u41, rfl, le35, hS35⟩
         dsimp only [cellarerlaw22_MountsOrder.k5] at H
         refine C_region ?_
         refine W_move rfl rfl ?_
         refine W_add rfl rfl rfl rfl ?_
         refine W_assign rfl rfl ?_
         refine W_nil ?_
         exact N_againM (i36, l37, wr (i30 + 1), l40) _ H ⟨F35, u38, u41, rfl, (le25.trans le35), hS35⟩ ⟨rfl, rfl, rfl, rfl, rfl, rfl, trivial⟩
       ·
        rw [if_f hc34] at H
        refine C_exit _ rfl ?_
        exact N_join _ ⟨i26, H, ⟨F25, rfl, le25, hS25.pick [2] (by decide)⟩⟩ ⟨rfl, rfl, trivial⟩
     ·
      rintro E w18 ⟨i19, H, F18, rfl, le18, hS18⟩
      dsimp only [cellarerlaw22_MountsOrder.k3] at H
      refine C_seq ?_
      obtain ⟨r20, hr20, H⟩ := bd_some H
      refine C_join (fun E wq => E = [(4, .bool (decide (i19 = (r7.1.length : Int)) && r20))] ∧ ∃ F21 : Frz, F18.le F21 ∧ St [] w F F21 [.row Read.t 39 ur7_0 r7.1] wq) ?_ ?_
      ·
       rcases Bool.eq_false_or_eq_true (decide (i19 = (r7.1.length : Int))) with hb22 | hb22
       ·
        refine C_region ?_
        refine W_move rfl rfl ?_
        refine W_move rfl rfl ?_
        refine W_lenv rfl Go.Proofs.Try.underlying23 rfl (hS18.rowLn (k := 0) rfl) ?_
        refine W_eql rfl rfl rfl ?_
        refine W_move rfl rfl ?_
        refine W_known (t := 186) true rfl hb22 ?_
        refine W_guard_yes rfl ?_
        have hy23 := hr20
        rw [only_t hb22] at hy23
        refine W_call rfl Ty.named23 rfl (cellarerlaw22_wakes_ok hS18.agree hy23) ?_
        rintro v24 w24 ⟨Fr20, rfl, hT24⟩
        have hS24 := hS18.lent hT24
        refine W_pick_t rfl rfl rfl ?_
        refine W_assign rfl rfl ?_
        refine W_nil ?_
        exact N_join _ ⟨rfl, F18, (Frz.le.refl _), hS24⟩ ⟨(look_bool rfl (by first | rfl | (rw [hb22]; first | done | rfl) | simp [hb22])), trivial⟩
       ·
        refine C_region ?_
        refine W_move rfl rfl ?_
        refine W_move rfl rfl ?_
        refine W_lenv rfl Go.Proofs.Try.underlying23 rfl (hS18.rowLn (k := 0) rfl) ?_
        refine W_eql rfl rfl rfl ?_
        refine W_move rfl rfl ?_
        refine W_known (t := 186) false rfl hb22 ?_
        refine W_guard_no rfl rfl rfl rfl rfl ?_
        refine W_pick_f rfl rfl rfl ?_
        refine W_assign rfl rfl ?_
        refine W_nil ?_
        exact N_join _ ⟨rfl, F18, (Frz.le.refl _), hS18⟩ ⟨(look_bool rfl (by first | rfl | (rw [hb22]; first | done | rfl) | simp [hb22])), trivial⟩
      rintro E w21 ⟨rfl, F21, le21, hS21⟩
      refine N_code ?_
      obtain rfl := Option.some.inj H
      refine C_ret rfl rfl ?_
      exact ⟨F21, rfl, hS21.pick [] (by decide)⟩

end Go.Wk.Lf
