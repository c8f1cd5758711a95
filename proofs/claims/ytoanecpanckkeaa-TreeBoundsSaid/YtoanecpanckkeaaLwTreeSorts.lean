import Derived.Test.YtoanecpanckkeaaLfB
namespace Go.Wk.Lf
open Go.Proofs Go.RowKit
set_option linter.unusedVariables false
set_option linter.unusedSimpArgs false
noncomputable section

def cellarerlaw05_TreeSorts.k2 : Option Bool :=
  bd (cellarerlaw05_wakes) fun r53 =>
  some r53


def cellarerlaw05_TreeSorts.k4 (i56 : Int) (rec57 : Int → Option Bool) : Option Bool :=
  rec57 (wr (i56 + 1))


def cellarerlaw05_TreeSorts.k5 (i56 : Int) (rec57 : Int → Option Bool) (b61 : Bool) : Option Bool :=
  if (!b61) then
    some false
  else
    cellarerlaw05_TreeSorts.k4 i56 rec57


def cellarerlaw05_TreeSorts.l6 (x0 : List File) (r4 : (List File) × Int) (i56 : Int) (rec57 : Int → Option Bool) (rec66 : (Bool × Int) → Option Bool) : (Bool × Int) → Option Bool
  | (b64, i65) =>
    if decide (i65 < (r4.1.length : Int)) then
      bd (only (!b64) (ix r4.1 i65) (File.mk [] [])) fun x68 =>
      bd (only (!b64) (ix x0 i56) (File.mk [] [])) fun x70 =>
      bd (only ((!b64) && (x68.path == x70.path)) (ix r4.1 i65) (File.mk [] [])) fun x72 =>
      bd (only ((!b64) && (x68.path == x70.path)) (ix x0 i56) (File.mk [] [])) fun x74 =>
      bd (only ((!b64) && (x68.path == x70.path)) (cellarerkeep_Bytes x72.data x74.data) false) fun r76 =>
      rec66 ((b64 || ((x68.path == x70.path) && r76)), wr (i65 + 1))
    else
      cellarerlaw05_TreeSorts.k5 i56 rec57 b64


def cellarerlaw05_TreeSorts.l3 (x0 : List File) (r4 : (List File) × Int) (rec57 : Int → Option Bool) : Int → Option Bool
  | i56 =>
    if decide (i56 < (x0.length : Int)) then
      loop (cellarerlaw05_TreeSorts.l6 x0 r4 i56 rec57) (false, 0)
    else
      cellarerlaw05_TreeSorts.k2


def cellarerlaw05_TreeSorts.k1 (x0 : List File) (r4 : (List File) × Int) (l7 : List File) : Option Bool :=
  bd (tree_Sort l7) fun r10 =>
  bd (only (!decide (r4.2 ≠ r10.2)) (tree_Same r4.1 r10.1) false) fun r13 =>
  if (decide (r4.2 ≠ r10.2) || (!r13)) then
    some false
  else
    if decide (r4.2 ≠ 0) then
      bd (only (decide ((r4.1.length : Int) = 0)) (cellarerlaw05_wakes) false) fun r20 =>
      some (decide ((r4.1.length : Int) = 0) && r20)
    else
      bd (tree_Sort r4.1) fun r25 =>
      bd (only (!(decide (r25.2 ≠ 0) || decide ((r4.1.length : Int) ≠ (x0.length : Int)))) (tree_Check r4.1) 0) fun r28 =>
      bd (only (!((decide (r25.2 ≠ 0) || decide ((r4.1.length : Int) ≠ (x0.length : Int))) || decide (r28 ≠ 0))) (tree_Same r25.1 r4.1) false) fun r29 =>
      bd (only (!(((decide (r25.2 ≠ 0) || decide ((r4.1.length : Int) ≠ (x0.length : Int))) || decide (r28 ≠ 0)) || (!r29))) (tree_Size r4.1) 0) fun r30 =>
      bd (only (!(((decide (r25.2 ≠ 0) || decide ((r4.1.length : Int) ≠ (x0.length : Int))) || decide (r28 ≠ 0)) || (!r29))) (tree_Size x0) 0) fun r31 =>
      if ((((decide (r25.2 ≠ 0) || decide ((r4.1.length : Int) ≠ (x0.length : Int))) || decide (r28 ≠ 0)) || (!r29)) || decide (r30 ≠ r31)) then
        some false
      else
        loop (cellarerlaw05_TreeSorts.l3 x0 r4) 0


def cellarerlaw05_TreeSorts.l7 (x0 : List File) (x1 : Int) (r4 : (List File) × Int) (rec180 : ((List File) × Int) → Option Bool) : ((List File) × Int) → Option Bool
  | (l176, i179) =>
    if decide (i179 < (x0.length : Int)) then
      bd (rem (wu x1) (wu (x0.length : Int))) fun x182 =>
      bd (rem (wr (i179 + wr x182)) (x0.length : Int)) fun x183 =>
      bd (ix x0 x183) fun x184 =>
      bd (app (α := File) l176 [x184]) fun l187 =>
      rec180 (l187, wr (i179 + 1))
    else
      cellarerlaw05_TreeSorts.k1 x0 r4 l176

def cellarerlaw05_TreeSorts (x0 : List File) (x1 : Int) : Option Bool :=
  bd (cellarerlaw05_Heavy x0) fun r1 =>
  if r1 then
    some true
  else
    bd (tree_Sort x0) fun r4 =>
    loop (cellarerlaw05_TreeSorts.l7 x0 x1 r4) ([], 0)

theorem cellarerlaw05_TreeSorts_ok {F : Frz} {w : World} {x0 : List File} {x1 : Int} {r : Bool} {v0 : Value} (hA : Agree F w.heap) (h0 : SlF File.t F v0 x0) (H : cellarerlaw05_TreeSorts x0 x1 = some r) : Ret Try.prog 6 #[v0, .int .i64 x1] w fun v w' => ∃ (F' : Frz), v = .bool r ∧ St [] w F F' [] w' := by
 refine Ret_of (args := [v0, .int .i64 x1]) Go.Proofs.Try.func6 rfl rfl ?_
 change C _ _ _ _ [(0, v0), (1, .int .i64 x1)] _
 have hS := St.entry hA
 dsimp only [cellarerlaw05_TreeSorts] at H
 refine C_seq ?_
 refine C_region ?_
 refine W_assign rfl rfl ?_
 refine W_nil ?_
 refine N_code ?_
 refine C_seq ?_
 refine C_seq ?_
 obtain ⟨r1, hr1, H⟩ := bd_some H
 refine C_region ?_
 refine W_move rfl rfl ?_
 refine W_call rfl Ty.named17 rfl (cellarerlaw05_Heavy_ok hS.agree h0 hr1) ?_
 rintro v2 w2 ⟨Fr1, rfl, hT2⟩
 have hS2 := hS.lent hT2
 refine W_nil ?_
 refine N_code ?_
 refine C_cond rfl (fun hc3 => ?_) (fun hc3 => ?_)
 ·
  rw [if_t hc3] at H
  refine C_seq ?_
  refine C_region ?_
  refine W_assign rfl rfl ?_
  refine W_nil ?_
  refine N_code ?_
  obtain rfl := Option.some.inj H
  refine C_ret rfl rfl ?_
  exact ⟨F, rfl, hS2⟩
 ·
  rw [if_f hc3] at H
  refine C_skip ?_
  refine N_code ?_
  refine C_seq ?_
  obtain ⟨r4, hr4, H⟩ := bd_some H
  refine C_region ?_
  refine W_move rfl rfl ?_
  refine W_call rfl Ty.named19 rfl (tree_Sort_ok hS2.agree h0 hr4) ?_
  rintro v5 w5 ⟨Fr4, ur4_0, rfl, hT5⟩
  have hS5 := hS2.call hT5
  have ler4 := hT5.ext
  refine W_move rfl rfl ?_
  refine W_extract rfl rfl rfl ?_
  refine W_extract rfl rfl rfl ?_
  refine W_assign rfl rfl ?_
  refine W_assign rfl rfl ?_
  refine W_nil ?_
  refine N_code ?_
  refine C_seq ?_
  refine C_region ?_
  refine W_assign rfl rfl ?_
  refine W_nil ?_
  refine N_code ?_
  refine C_seq_join (fun E wq => ∃ l7 : List File, cellarerlaw05_TreeSorts.k1 x0 r4 l7 = some r ∧ ∃ (F6 : Frz) (u8 : Value), E = [(0, v0), (5, ur4_0), (6, .int .i64 r4.2), (7, u8)] ∧ Fr4.le F6 ∧ St [] w F F6 [.row File.t 34 ur4_0 r4.1, .row File.t 34 u8 l7] wq) ?_ ?_
  ·
   refine C_seq ?_
   refine C_region ?_
   refine W_assign rfl rfl ?_
   refine W_nil ?_
   refine N_code ?_
   refine C_block ?_
   refine C_loopM (fun (s : (List File) × Int) E wq => ∃ (F175 : Frz) (u177 : Value), E = [(0, v0), (1, .int .i64 x1), (5, ur4_0), (6, .int .i64 r4.2), (7, u177), (8, .int .i64 s.2)] ∧ Fr4.le F175 ∧ St [] w F F175 [.row File.t 34 ur4_0 r4.1, .row File.t 34 u177 s.1] wq) H ?_ ?_
   ·
    have hS193 := hS5.nilRow File.t 34
    exact ⟨_, ⟨Fr4, (.slice none 0 0), rfl, (Frz.le.refl _), hS193.pick [1, 0] (by decide)⟩, ⟨rfl, rfl, rfl, rfl, rfl, rfl, trivial⟩⟩
   ·
    rintro rec180 ⟨l176, i179⟩ E w175 hI H
    try dsimp only at hI
    obtain ⟨F175, u177, rfl, le175, hS175⟩ := hI
    dsimp only [cellarerlaw05_TreeSorts.l7] at H
    refine C_seq ?_
    refine C_seq ?_
    refine C_region ?_
    refine W_move rfl rfl ?_
    refine W_move rfl rfl ?_
    refine W_lenv rfl Go.Proofs.Try.underlying27 rfl h0.ln ?_
    refine W_lss rfl rfl rfl ?_
    refine W_nil ?_
    refine N_code ?_
    refine C_cond rfl (fun hc181 => ?_) (fun hc181 => ?_)
    ·
     rw [if_t hc181] at H
     refine C_skip ?_
     refine N_code ?_
     refine C_seq ?_
     refine C_block ?_
     obtain ⟨x182, hx182, H⟩ := bd_some H
     obtain ⟨x183, hx183, H⟩ := bd_some H
     obtain ⟨x184, hx184, H⟩ := bd_some H
     obtain ⟨l187, hl187, H⟩ := bd_some H
     refine C_region ?_
     refine W_move rfl rfl ?_
     refine W_move rfl rfl ?_
     refine W_move rfl rfl ?_
     refine W_move rfl rfl ?_
     refine W_conv rfl rfl Ty.some3 Go.Proofs.Try.underlying24 (rfl) ?_
     refine W_move rfl rfl ?_
     refine W_lenv rfl Go.Proofs.Try.underlying27 rfl h0.ln ?_
     refine W_conv rfl rfl Ty.some3 Go.Proofs.Try.underlying24 (rfl) ?_
     obtain ⟨hz189, hw189⟩ := rem_some hx182
     refine W_rem rfl rfl rfl hz189 hw189.symm ?_
     refine W_conv rfl rfl Ty.some24 Go.Proofs.Try.underlying3 (rfl) ?_
     refine W_add rfl rfl rfl rfl ?_
     refine W_move rfl rfl ?_
     refine W_lenv rfl Go.Proofs.Try.underlying27 rfl h0.ln ?_
     obtain ⟨hz190, hw190⟩ := rem_some hx183
     refine W_rem rfl rfl rfl hz190 hw190.symm ?_
     obtain ⟨hp191, hy191⟩ := ix_some hx184
     obtain ⟨cs191, hr191, he191⟩ := (h0.mono (ler4.trans le175)).at_ hy191
     obtain ⟨ue185_0, rfl, hue185_0⟩ := hr191
     replace he191 : Elf _ _ 2 _ _ := he191
     refine W_ix rfl Go.Proofs.Try.underlying27 Ty.cells34 Ty.info34 rfl rfl (he191.el hS175.agree) hp191 rfl ?_
     refine W_ldg 0 ((File.cells x184 ue185_0)) rfl Ty.agg34 Ty.size34 rfl (he191.el hS175.agree) (by omega) (fun q u h => sub_at (post := []) rfl h) ?_
     refine W_bs (t := File.t) [(File.cells x184 ue185_0)] [x184] rfl Go.Proofs.Try.underlying27 Ty.cells34 rfl rfl Ty.zero34 rfl rfl ⟨⟨ue185_0, rfl, hue185_0⟩, trivial⟩ rfl rfl hS175 ?_
     intro u186 w186 hS186
     refine W_appM 2 rfl Go.Proofs.Try.underlying27 Ty.row34 rfl rfl rfl rfl rfl hS186 rfl (hS186.rowSrc (j := 0) rfl) hl187 ?_
     intro v188 w188 hS188
     refine W_assign rfl rfl ?_
     refine W_nil ?_
     refine N_block ?_
     refine N_code ?_
     refine C_region ?_
     refine W_move rfl rfl ?_
     refine W_add rfl rfl rfl rfl ?_
     refine W_assign rfl rfl ?_
     refine W_nil ?_
     exact N_againM (l187, wr (i179 + 1)) _ H ⟨F175, v188, rfl, le175, hS188.pick [1, 2] (by decide)⟩ ⟨rfl, rfl, rfl, rfl, rfl, rfl, trivial⟩
    ·
     rw [if_f hc181] at H
     refine C_exit _ rfl ?_
     exact N_join _ ⟨l176, H, ⟨F175, u177, rfl, le175, hS175⟩⟩ ⟨rfl, rfl, rfl, rfl, trivial⟩
  ·
   rintro E w6 ⟨l7, H, F6, u8, rfl, le6, hS6⟩
   dsimp only [cellarerlaw05_TreeSorts.k1] at H
   refine C_seq ?_
   obtain ⟨r10, hr10, H⟩ := bd_some H
   refine C_region ?_
   refine W_move rfl rfl ?_
   obtain ⟨F11, le11, hf11, hS11⟩ := hS6.freeze 1 [0] rfl (by decide) (by decide)
   refine W_call rfl Ty.named19 rfl (tree_Sort_ok hS11.agree hf11 hr10) ?_
   rintro v12 w12 ⟨Fr10, ur10_0, rfl, hT12⟩
   have hS12 := hS11.call hT12
   have ler10 := hT12.ext
   refine W_move rfl rfl ?_
   refine W_extract rfl rfl rfl ?_
   refine W_extract rfl rfl rfl ?_
   refine W_assign rfl rfl ?_
   refine W_assign rfl rfl ?_
   refine W_nil ?_
   refine N_code ?_
   refine C_seq ?_
   refine C_seq ?_
   obtain ⟨r13, hr13, H⟩ := bd_some H
   refine C_join (fun E wq => E = [(0, v0), (5, ur4_0), (6, .int .i64 r4.2), (60, .bool (decide (r4.2 ≠ r10.2) || (!r13)))] ∧ ∃ F14 : Frz, Fr10.le F14 ∧ St [] w F F14 [.row File.t 34 ur10_0 r10.1, .row File.t 34 ur4_0 r4.1] wq) ?_ ?_
   ·
    rcases Bool.eq_false_or_eq_true (decide (r4.2 ≠ r10.2)) with hb15 | hb15
    ·
     refine C_region ?_
     refine W_move rfl rfl ?_
     refine W_move rfl rfl ?_
     refine W_neq rfl rfl rfl ?_
     refine W_move rfl rfl ?_
     refine W_known (t := 55) true rfl hb15 ?_
     refine W_guard_no rfl rfl rfl rfl rfl ?_
     refine W_guard_no rfl rfl rfl rfl rfl ?_
     refine W_guard_no rfl rfl rfl rfl rfl ?_
     refine W_guard_no rfl rfl rfl rfl rfl ?_
     refine W_pick_t rfl rfl rfl ?_
     refine W_nil ?_
     exact N_join _ ⟨rfl, Fr10, (Frz.le.refl _), hS12⟩ ⟨rfl, rfl, rfl, (look_bool rfl (by first | rfl | (rw [hb15]; first | done | rfl) | simp [hb15])), trivial⟩
    ·
     refine C_region ?_
     refine W_move rfl rfl ?_
     refine W_move rfl rfl ?_
     refine W_neq rfl rfl rfl ?_
     refine W_move rfl rfl ?_
     refine W_known (t := 55) false rfl hb15 ?_
     refine W_guard_yes rfl ?_
     refine W_move rfl rfl ?_
     refine W_guard_yes rfl ?_
     refine W_move rfl rfl ?_
     refine W_guard_yes rfl ?_
     have hy16 := hr13
     rw [only_t (by first | rfl | (rw [hb15]; first | done | rfl) | simp [hb15])] at hy16
     refine W_call rfl Ty.named27 rfl (tree_Same_ok (now_agree _) (hS12.rowNow (k := 1) rfl) (hS12.rowNow (k := 0) rfl) hy16) ?_
     rintro v17 w17 ⟨Fr13, rfl, hT17⟩
     have hS17 := hS12.lent hT17
     refine W_guard_yes rfl ?_
     refine W_not rfl rfl ?_
     refine W_pick_f rfl rfl rfl ?_
     refine W_nil ?_
     exact N_join _ ⟨rfl, Fr10, (Frz.le.refl _), hS17⟩ ⟨rfl, rfl, rfl, (look_bool rfl (by first | rfl | (rw [hb15]; first | done | rfl) | simp [hb15])), trivial⟩
   rintro E w14 ⟨rfl, F14, le14, hS14⟩
   refine N_code ?_
   refine C_cond rfl (fun hc18 => ?_) (fun hc18 => ?_)
   ·
    rw [if_t hc18] at H
    refine C_seq ?_
    refine C_region ?_
    refine W_assign rfl rfl ?_
    refine W_nil ?_
    refine N_code ?_
    obtain rfl := Option.some.inj H
    refine C_ret rfl rfl ?_
    exact ⟨F14, rfl, hS14.pick [] (by decide)⟩
   ·
    rw [if_f hc18] at H
    refine C_skip ?_
    refine N_code ?_
    refine C_seq ?_
    refine C_seq ?_
    refine C_region ?_
    refine W_move rfl rfl ?_
    refine W_neq rfl rfl rfl ?_
    refine W_nil ?_
    refine N_code ?_
    refine C_cond rfl (fun hc19 => ?_) (fun hc19 => ?_)
    ·
     rw [if_t hc19] at H
     refine C_seq ?_
     obtain ⟨r20, hr20, H⟩ := bd_some H
     refine C_join (fun E wq => E = [(4, .bool (decide ((r4.1.length : Int) = 0) && r20))] ∧ ∃ F21 : Frz, F14.le F21 ∧ St [] w F F21 [.row File.t 34 ur10_0 r10.1, .row File.t 34 ur4_0 r4.1] wq) ?_ ?_
     ·
      rcases Bool.eq_false_or_eq_true (decide ((r4.1.length : Int) = 0)) with hb22 | hb22
      ·
       refine C_region ?_
       refine W_move rfl rfl ?_
       refine W_lenv rfl Go.Proofs.Try.underlying27 rfl (hS14.rowLn (k := 1) rfl) ?_
       refine W_eql rfl rfl rfl ?_
       refine W_move rfl rfl ?_
       refine W_known (t := 66) true rfl hb22 ?_
       refine W_guard_yes rfl ?_
       have hy23 := hr20
       rw [only_t hb22] at hy23
       refine W_call rfl Ty.named16 rfl (cellarerlaw05_wakes_ok hS14.agree hy23) ?_
       rintro v24 w24 ⟨Fr20, rfl, hT24⟩
       have hS24 := hS14.lent hT24
       refine W_pick_t rfl rfl rfl ?_
       refine W_assign rfl rfl ?_
       refine W_nil ?_
       exact N_join _ ⟨rfl, F14, (Frz.le.refl _), hS24⟩ ⟨(look_bool rfl (by first | rfl | (rw [hb22]; first | done | rfl) | simp [hb22])), trivial⟩
      ·
       refine C_region ?_
       refine W_move rfl rfl ?_
       refine W_lenv rfl Go.Proofs.Try.underlying27 rfl (hS14.rowLn (k := 1) rfl) ?_
       refine W_eql rfl rfl rfl ?_
       refine W_move rfl rfl ?_
       refine W_known (t := 66) false rfl hb22 ?_
       refine W_guard_no rfl rfl rfl rfl rfl ?_
       refine W_pick_f rfl rfl rfl ?_
       refine W_assign rfl rfl ?_
       refine W_nil ?_
       exact N_join _ ⟨rfl, F14, (Frz.le.refl _), hS14⟩ ⟨(look_bool rfl (by first | rfl | (rw [hb22]; first | done | rfl) | simp [hb22])), trivial⟩
     rintro E w21 ⟨rfl, F21, le21, hS21⟩
     refine N_code ?_
     obtain rfl := Option.some.inj H
     refine C_ret rfl rfl ?_
     exact ⟨F21, rfl, hS21.pick [] (by decide)⟩
    ·
     rw [if_f hc19] at H
     refine C_skip ?_
     refine N_code ?_
     refine C_seq ?_
     obtain ⟨r25, hr25, H⟩ := bd_some H
     refine C_region ?_
     refine W_move rfl rfl ?_
     obtain ⟨F26, le26, hf26, hS26⟩ := hS14.freeze 1 [0] rfl (by decide) (by decide)
     refine W_call rfl Ty.named19 rfl (tree_Sort_ok hS26.agree hf26 hr25) ?_
     rintro v27 w27 ⟨Fr25, ur25_0, rfl, hT27⟩
     have hS27 := hS26.call hT27
     have ler25 := hT27.ext
     refine W_move rfl rfl ?_
     refine W_extract rfl rfl rfl ?_
     refine W_extract rfl rfl rfl ?_
     refine W_assign rfl rfl ?_
     refine W_assign rfl rfl ?_
     refine W_nil ?_
     refine N_code ?_
     refine C_seq ?_
     refine C_seq ?_
     obtain ⟨r28, hr28, H⟩ := bd_some H
     obtain ⟨r29, hr29, H⟩ := bd_some H
     obtain ⟨r30, hr30, H⟩ := bd_some H
     obtain ⟨r31, hr31, H⟩ := bd_some H
     refine C_join (fun E wq => E = [(0, v0), (5, ur4_0), (100, .bool ((((decide (r25.2 ≠ 0) || decide ((r4.1.length : Int) ≠ (x0.length : Int))) || decide (r28 ≠ 0)) || (!r29)) || decide (r30 ≠ r31)))] ∧ ∃ F32 : Frz, Fr25.le F32 ∧ St [] w F F32 [.row File.t 34 ur25_0 r25.1, .row File.t 34 ur10_0 r10.1] wq) ?_ ?_
     ·
      rcases Bool.eq_false_or_eq_true (decide (r25.2 ≠ 0)) with hb33 | hb33
      ·
       refine C_region ?_
       refine W_move rfl rfl ?_
       refine W_neq rfl rfl rfl ?_
       refine W_move rfl rfl ?_
       refine W_known (t := 76) true rfl hb33 ?_
       refine W_guard_no rfl rfl rfl rfl rfl ?_
       refine W_guard_no rfl rfl rfl rfl rfl ?_
       refine W_guard_no rfl rfl rfl rfl rfl ?_
       refine W_guard_no rfl rfl rfl rfl rfl ?_
       refine W_guard_no rfl rfl rfl rfl rfl ?_
       refine W_pick_t rfl rfl rfl ?_
       refine W_move rfl rfl ?_
       refine W_guard_no rfl rfl rfl rfl rfl ?_
       refine W_guard_no rfl rfl rfl rfl rfl ?_
       refine W_guard_no rfl rfl rfl rfl rfl ?_
       refine W_pick_t rfl rfl rfl ?_
       refine W_move rfl rfl ?_
       refine W_guard_no rfl rfl rfl rfl rfl ?_
       refine W_guard_no rfl rfl rfl rfl rfl ?_
       refine W_guard_no rfl rfl rfl rfl rfl ?_
       refine W_guard_no rfl rfl rfl rfl rfl ?_
       refine W_pick_t rfl rfl rfl ?_
       refine W_move rfl rfl ?_
       refine W_guard_no rfl rfl rfl rfl rfl ?_
       refine W_guard_no rfl rfl rfl rfl rfl ?_
       refine W_guard_no rfl rfl rfl rfl rfl ?_
       refine W_guard_no rfl rfl rfl rfl rfl ?_
       refine W_guard_no rfl rfl rfl rfl rfl ?_
       refine W_pick_t rfl rfl rfl ?_
       refine W_nil ?_
       exact N_join _ ⟨rfl, Fr25, (Frz.le.refl _), hS27⟩ ⟨rfl, rfl, (look_bool rfl (by first | rfl | (rw [hb33]; first | done | rfl) | simp [hb33])), trivial⟩
      ·
       rcases Bool.eq_false_or_eq_true (decide ((r4.1.length : Int) ≠ (x0.length : Int))) with hb34 | hb34
       ·
        refine C_region ?_
        refine W_move rfl rfl ?_
        refine W_neq rfl rfl rfl ?_
        refine W_move rfl rfl ?_
        refine W_known (t := 76) false rfl hb33 ?_
        refine W_guard_yes rfl ?_
        refine W_move rfl rfl ?_
        refine W_guard_yes rfl ?_
        refine W_lenv rfl Go.Proofs.Try.underlying27 rfl hf26.ln ?_
        refine W_guard_yes rfl ?_
        refine W_move rfl rfl ?_
        refine W_guard_yes rfl ?_
        refine W_lenv rfl Go.Proofs.Try.underlying27 rfl h0.ln ?_
        refine W_guard_yes rfl ?_
        refine W_neq rfl rfl rfl ?_
        refine W_pick_f rfl rfl rfl ?_
        refine W_move rfl rfl ?_
        refine W_known (t := 83) true rfl hb34 ?_
        refine W_guard_no rfl rfl rfl rfl rfl ?_
        refine W_guard_no rfl rfl rfl rfl rfl ?_
        refine W_guard_no rfl rfl rfl rfl rfl ?_
        refine W_pick_t rfl rfl rfl ?_
        refine W_move rfl rfl ?_
        refine W_guard_no rfl rfl rfl rfl rfl ?_
        refine W_guard_no rfl rfl rfl rfl rfl ?_
        refine W_guard_no rfl rfl rfl rfl rfl ?_
        refine W_guard_no rfl rfl rfl rfl rfl ?_
        refine W_pick_t rfl rfl rfl ?_
        refine W_move rfl rfl ?_
        refine W_guard_no rfl rfl rfl rfl rfl ?_
        refine W_guard_no rfl rfl rfl rfl rfl ?_
        refine W_guard_no rfl rfl rfl rfl rfl ?_
        refine W_guard_no rfl rfl rfl rfl rfl ?_
        refine W_guard_no rfl rfl rfl rfl rfl ?_
        refine W_pick_t rfl rfl rfl ?_
        refine W_nil ?_
        exact N_join _ ⟨rfl, Fr25, (Frz.le.refl _), hS27⟩ ⟨rfl, rfl, (look_bool rfl (by first | rfl | (rw [hb34, hb33]; first | done | rfl) | simp [hb33, hb34])), trivial⟩
       ·
        rcases Bool.eq_false_or_eq_true (decide (r28 ≠ 0)) with hb35 | hb35
        ·
         refine C_region ?_
         refine W_move rfl rfl ?_
         refine W_neq rfl rfl rfl ?_
         refine W_move rfl rfl ?_
         refine W_known (t := 76) false rfl hb33 ?_
         refine W_guard_yes rfl ?_
         refine W_move rfl rfl ?_
         refine W_guard_yes rfl ?_
         refine W_lenv rfl Go.Proofs.Try.underlying27 rfl hf26.ln ?_
         refine W_guard_yes rfl ?_
         refine W_move rfl rfl ?_
         refine W_guard_yes rfl ?_
         refine W_lenv rfl Go.Proofs.Try.underlying27 rfl h0.ln ?_
         refine W_guard_yes rfl ?_
         refine W_neq rfl rfl rfl ?_
         refine W_pick_f rfl rfl rfl ?_
         refine W_move rfl rfl ?_
         refine W_known (t := 83) false rfl hb34 ?_
         refine W_guard_yes rfl ?_
         refine W_move rfl rfl ?_
         refine W_guard_yes rfl ?_
         have hy36 := hr28
         rw [only_t (by first | rfl | (rw [hb34, hb33]; first | done | rfl) | simp [hb33, hb34, hb35])] at hy36
         refine W_call rfl Ty.named21 rfl (tree_Check_ok hS27.agree (hf26.mono ler25) hy36) ?_
         rintro v37 w37 ⟨Fr28, rfl, hT37⟩
         have hS37 := hS27.lent hT37
         refine W_guard_yes rfl ?_
         refine W_neq rfl rfl rfl ?_
         refine W_pick_f rfl rfl rfl ?_
         refine W_move rfl rfl ?_
         refine W_known (t := 88) true rfl hb35 ?_
         refine W_guard_no rfl rfl rfl rfl rfl ?_
         refine W_guard_no rfl rfl rfl rfl rfl ?_
         refine W_guard_no rfl rfl rfl rfl rfl ?_
         refine W_guard_no rfl rfl rfl rfl rfl ?_
         refine W_pick_t rfl rfl rfl ?_
         refine W_move rfl rfl ?_
         refine W_guard_no rfl rfl rfl rfl rfl ?_
         refine W_guard_no rfl rfl rfl rfl rfl ?_
         refine W_guard_no rfl rfl rfl rfl rfl ?_
         refine W_guard_no rfl rfl rfl rfl rfl ?_
         refine W_guard_no rfl rfl rfl rfl rfl ?_
         refine W_pick_t rfl rfl rfl ?_
         refine W_nil ?_
         exact N_join _ ⟨rfl, Fr25, (Frz.le.refl _), hS37⟩ ⟨rfl, rfl, (look_bool rfl (by first | rfl | (rw [hb34, hb33, hb35]; first | done | rfl) | simp [hb33, hb34, hb35])), trivial⟩
        ·
         rcases Bool.eq_false_or_eq_true (!r29) with hb38 | hb38
         ·
          refine C_region ?_
          refine W_move rfl rfl ?_
          refine W_neq rfl rfl rfl ?_
          refine W_move rfl rfl ?_
          refine W_known (t := 76) false rfl hb33 ?_
          refine W_guard_yes rfl ?_
          refine W_move rfl rfl ?_
          refine W_guard_yes rfl ?_
          refine W_lenv rfl Go.Proofs.Try.underlying27 rfl hf26.ln ?_
          refine W_guard_yes rfl ?_
          refine W_move rfl rfl ?_
          refine W_guard_yes rfl ?_
          refine W_lenv rfl Go.Proofs.Try.underlying27 rfl h0.ln ?_
          refine W_guard_yes rfl ?_
          refine W_neq rfl rfl rfl ?_
          refine W_pick_f rfl rfl rfl ?_
          refine W_move rfl rfl ?_
          refine W_known (t := 83) false rfl hb34 ?_
          refine W_guard_yes rfl ?_
          refine W_move rfl rfl ?_
          refine W_guard_yes rfl ?_
          have hy39 := hr28
          rw [only_t (by first | rfl | (rw [hb34, hb33]; first | done | rfl) | simp [hb33, hb34, hb35, hb38])] at hy39
          refine W_call rfl Ty.named21 rfl (tree_Check_ok hS27.agree (hf26.mono ler25) hy39) ?_
          rintro v40 w40 ⟨Fr28, rfl, hT40⟩
          have hS40 := hS27.lent hT40
          refine W_guard_yes rfl ?_
          refine W_neq rfl rfl rfl ?_
          refine W_pick_f rfl rfl rfl ?_
          refine W_move rfl rfl ?_
          refine W_known (t := 88) false rfl hb35 ?_
          refine W_guard_yes rfl ?_
          refine W_move rfl rfl ?_
          refine W_guard_yes rfl ?_
          refine W_move rfl rfl ?_
          refine W_guard_yes rfl ?_
          have hy41 := hr29
          rw [only_t (by first | rfl | (rw [hb34, hb33, hb35]; first | done | rfl) | simp [hb33, hb34, hb35, hb38])] at hy41
          refine W_call rfl Ty.named27 rfl (tree_Same_ok (now_agree _) (hS40.rowNow (k := 0) rfl) ((hf26.mono ler25).mono hS40.agree) hy41) ?_
          rintro v42 w42 ⟨Fr29, rfl, hT42⟩
          have hS42 := hS40.lent hT42
          refine W_guard_yes rfl ?_
          refine W_not rfl rfl ?_
          refine W_pick_f rfl rfl rfl ?_
          refine W_move rfl rfl ?_
          refine W_known (t := 94) true rfl hb38 ?_
          refine W_guard_no rfl rfl rfl rfl rfl ?_
          refine W_guard_no rfl rfl rfl rfl rfl ?_
          refine W_guard_no rfl rfl rfl rfl rfl ?_
          refine W_guard_no rfl rfl rfl rfl rfl ?_
          refine W_guard_no rfl rfl rfl rfl rfl ?_
          refine W_pick_t rfl rfl rfl ?_
          refine W_nil ?_
          exact N_join _ ⟨rfl, Fr25, (Frz.le.refl _), hS42⟩ ⟨rfl, rfl, (look_bool rfl (by first | rfl | (rw [hb34, hb33, hb35, hb38]; first | done | rfl) | simp [hb33, hb34, hb35, hb38])), trivial⟩
         ·
          refine C_region ?_
          refine W_move rfl rfl ?_
          refine W_neq rfl rfl rfl ?_
          refine W_move rfl rfl ?_
          refine W_known (t := 76) false rfl hb33 ?_
          refine W_guard_yes rfl ?_
          refine W_move rfl rfl ?_
          refine W_guard_yes rfl ?_
          refine W_lenv rfl Go.Proofs.Try.underlying27 rfl hf26.ln ?_
          refine W_guard_yes rfl ?_
          refine W_move rfl rfl ?_
          refine W_guard_yes rfl ?_
          refine W_lenv rfl Go.Proofs.Try.underlying27 rfl h0.ln ?_
          refine W_guard_yes rfl ?_
          refine W_neq rfl rfl rfl ?_
          refine W_pick_f rfl rfl rfl ?_
          refine W_move rfl rfl ?_
          refine W_known (t := 83) false rfl hb34 ?_
          refine W_guard_yes rfl ?_
          refine W_move rfl rfl ?_
          refine W_guard_yes rfl ?_
          have hy43 := hr28
          rw [only_t (by first | rfl | (rw [hb34, hb33]; first | done | rfl) | simp [hb33, hb34, hb35, hb38])] at hy43
          refine W_call rfl Ty.named21 rfl (tree_Check_ok hS27.agree (hf26.mono ler25) hy43) ?_
          rintro v44 w44 ⟨Fr28, rfl, hT44⟩
          have hS44 := hS27.lent hT44
          refine W_guard_yes rfl ?_
          refine W_neq rfl rfl rfl ?_
          refine W_pick_f rfl rfl rfl ?_
          refine W_move rfl rfl ?_
          refine W_known (t := 88) false rfl hb35 ?_
          refine W_guard_yes rfl ?_
          refine W_move rfl rfl ?_
          refine W_guard_yes rfl ?_
          refine W_move rfl rfl ?_
          refine W_guard_yes rfl ?_
          have hy45 := hr29
          rw [only_t (by first | rfl | (rw [hb34, hb33, hb35]; first | done | rfl) | simp [hb33, hb34, hb35, hb38])] at hy45
          refine W_call rfl Ty.named27 rfl (tree_Same_ok (now_agree _) (hS44.rowNow (k := 0) rfl) ((hf26.mono ler25).mono hS44.agree) hy45) ?_
          rintro v46 w46 ⟨Fr29, rfl, hT46⟩
          have hS46 := hS44.lent hT46
          refine W_guard_yes rfl ?_
          refine W_not rfl rfl ?_
          refine W_pick_f rfl rfl rfl ?_
          refine W_move rfl rfl ?_
          refine W_known (t := 94) false rfl hb38 ?_
          refine W_guard_yes rfl ?_
          refine W_move rfl rfl ?_
          refine W_guard_yes rfl ?_
          have hy47 := hr30
          rw [only_t (by first | rfl | (rw [hb34, hb33, hb35, hb38]; first | done | rfl) | simp [hb33, hb34, hb35, hb38])] at hy47
          refine W_call rfl Ty.named24 rfl (tree_Size_ok hS46.agree (hf26.mono ler25) hy47) ?_
          rintro v48 w48 ⟨Fr30, rfl, hT48⟩
          have hS48 := hS46.lent hT48
          refine W_guard_yes rfl ?_
          refine W_move rfl rfl ?_
          refine W_guard_yes rfl ?_
          have hy49 := hr31
          rw [only_t (by first | rfl | (rw [hb34, hb33, hb35, hb38]; first | done | rfl) | simp [hb33, hb34, hb35, hb38])] at hy49
          refine W_call rfl Ty.named24 rfl (tree_Size_ok hS48.agree (h0.mono ((((((ler4.trans le6).trans le11).trans ler10).trans le14).trans le26).trans ler25)) hy49) ?_
          rintro v50 w50 ⟨Fr31, rfl, hT50⟩
          have hS50 := hS48.lent hT50
          refine W_guard_yes rfl ?_
          refine W_neq rfl rfl rfl ?_
          refine W_pick_f rfl rfl rfl ?_
          refine W_nil ?_
          exact N_join _ ⟨rfl, Fr25, (Frz.le.refl _), hS50⟩ ⟨rfl, rfl, (look_bool rfl (by first | rfl | (rw [hb34, hb33, hb35, hb38]; first | done | rfl) | simp [hb33, hb34, hb35, hb38])), trivial⟩
     rintro E w32 ⟨rfl, F32, le32, hS32⟩
     refine N_code ?_
     refine C_cond rfl (fun hc51 => ?_) (fun hc51 => ?_)
     ·
      rw [if_t hc51] at H
      refine C_seq ?_
      refine C_region ?_
      refine W_assign rfl rfl ?_
      refine W_nil ?_
      refine N_code ?_
      obtain rfl := Option.some.inj H
      refine C_ret rfl rfl ?_
      exact ⟨F32, rfl, hS32.pick [] (by decide)⟩
     ·
      rw [if_f hc51] at H
      refine C_skip ?_
      refine N_code ?_
      refine C_seq_join (fun E wq => cellarerlaw05_TreeSorts.k2 = some r ∧ ∃ (F52 : Frz), E = [] ∧ F32.le F52 ∧ St [] w F F52 [] wq) ?_ ?_
      ·
       refine C_seq ?_
       refine C_region ?_
       refine W_assign rfl rfl ?_
       refine W_nil ?_
       refine N_code ?_
       refine C_block ?_
       refine C_loopM (fun (s : Int) E wq => ∃ (F55 : Frz), E = [(0, v0), (5, ur4_0), (13, .int .i64 s)] ∧ F32.le F55 ∧ St [] w F F55 [] wq) H ?_ ?_
       ·
        exact ⟨_, ⟨F32, rfl, (Frz.le.refl _), hS32.pick [] (by decide)⟩, ⟨rfl, rfl, rfl, trivial⟩⟩
       ·
        rintro rec57 i56 E w55 hI H
        try dsimp only at hI
        obtain ⟨F55, rfl, le55, hS55⟩ := hI
        dsimp only [cellarerlaw05_TreeSorts.l3] at H
        refine C_seq ?_
        refine C_seq ?_
        refine C_region ?_
        refine W_move rfl rfl ?_
        refine W_move rfl rfl ?_
        refine W_lenv rfl Go.Proofs.Try.underlying27 rfl h0.ln ?_
        refine W_lss rfl rfl rfl ?_
        refine W_nil ?_
        refine N_code ?_
        refine C_cond rfl (fun hc58 => ?_) (fun hc58 => ?_)
        ·
         rw [if_t hc58] at H
         refine C_skip ?_
         refine N_code ?_
         refine C_seq_join (fun E wq => cellarerlaw05_TreeSorts.k4 i56 rec57 = some r ∧ ∃ (F59 : Frz), E = [(0, v0), (5, ur4_0), (13, .int .i64 i56)] ∧ F55.le F59 ∧ St [] w F F59 [] wq) ?_ ?_
         ·
          refine C_block ?_
          refine C_seq ?_
          refine C_region ?_
          refine W_assign rfl rfl ?_
          refine W_nil ?_
          refine N_code ?_
          refine C_seq_join (fun E wq => ∃ b61 : Bool, cellarerlaw05_TreeSorts.k5 i56 rec57 b61 = some r ∧ ∃ (F60 : Frz), E = [(0, v0), (5, ur4_0), (13, .int .i64 i56), (14, .bool b61)] ∧ F55.le F60 ∧ St [] w F F60 [] wq) ?_ ?_
          ·
           refine C_seq ?_
           refine C_region ?_
           refine W_assign rfl rfl ?_
           refine W_nil ?_
           refine N_code ?_
           refine C_block ?_
           refine C_loopM (fun (s : Bool × Int) E wq => ∃ (F63 : Frz), E = [(0, v0), (5, ur4_0), (13, .int .i64 i56), (14, .bool s.1), (15, .int .i64 s.2)] ∧ F55.le F63 ∧ St [] w F F63 [] wq) H ?_ ?_
           ·
            exact ⟨_, ⟨F55, rfl, (Frz.le.refl _), hS55⟩, ⟨rfl, rfl, rfl, rfl, rfl, trivial⟩⟩
           ·
            rintro rec66 ⟨b64, i65⟩ E w63 hI H
            try dsimp only at hI
            obtain ⟨F63, rfl, le63, hS63⟩ := hI
            dsimp only [cellarerlaw05_TreeSorts.l6] at H
            refine C_seq ?_
            refine C_seq ?_
            refine C_region ?_
            refine W_move rfl rfl ?_
            refine W_move rfl rfl ?_
            refine W_lenv rfl Go.Proofs.Try.underlying27 rfl hf26.ln ?_
            refine W_lss rfl rfl rfl ?_
            refine W_nil ?_
            refine N_code ?_
            refine C_cond rfl (fun hc67 => ?_) (fun hc67 => ?_)
            ·
             rw [if_t hc67] at H
             refine C_skip ?_
             refine N_code ?_
             refine C_seq ?_
             refine C_block ?_
             obtain ⟨x68, hx68, H⟩ := bd_some H
             obtain ⟨x70, hx70, H⟩ := bd_some H
             obtain ⟨x72, hx72, H⟩ := bd_some H
             obtain ⟨x74, hx74, H⟩ := bd_some H
             obtain ⟨r76, hr76, H⟩ := bd_some H
             refine C_join (fun E wq => E = [(0, v0), (5, ur4_0), (13, .int .i64 i56), (14, .bool (b64 || ((x68.path == x70.path) && r76))), (15, .int .i64 i65)] ∧ ∃ F77 : Frz, F63.le F77 ∧ St [] w F F77 [] wq) ?_ ?_
             ·
              rcases Bool.eq_false_or_eq_true b64 with hb78 | hb78
              ·
               apply C_draw 26 [[], [0], [1], [1], [2, 3, 1], [4, 1], [5, 1], [1], [1], [7, 8, 1], [9, 1], [10, 1], [6, 11, 1], [12, 1], [13], [13], [14, 15, 13], [16, 13], [17, 13], [13], [13], [19, 20, 13], [21, 13], [22, 13], [18, 23, 13], [13, 24, 1]] [.val (.bool b64), .val (.bool true), .val undef, .val undef, .val undef, .val undef, .val undef, .val undef, .val undef, .val undef, .val undef, .val undef, .val undef, .val undef, .val undef, .val undef, .val undef, .val undef, .val undef, .val undef, .val undef, .val undef, .val undef, .val undef, .val undef, .val undef] Ty.mixed rfl rfl (by kernel_rfl) (by kernel_rfl) rfl
               ·
                refine ⟨?_, ?_, ?_, ?_, ?_, ?_, ?_, ?_, ?_, ?_, ?_, ?_, ?_, ?_, ?_, ?_, ?_, ?_, ?_, ?_, ?_, ?_, ?_, ?_, ?_, ?_, trivial⟩
                ·
                 intro w79 vq79 hB79 hH79
                 have hS79 := hS63.below hB79
                 refine W_move rfl rfl ?_
                 refine W_nil ?_
                 exact N_step rfl rfl (Below.refl _ _)
                ·
                 intro w80 vq80 hB80 hH80
                 have hS80 := hS63.below hB80
                 refine W_move rfl rfl ?_
                 refine W_nil ?_
                 exact N_step rfl (congrArg Value.bool hb78) (Below.refl _ _)
                ·
                 intro w81 vq81 hB81 hH81
                 have hS81 := hS63.below hB81
                 refine W_guard_no rfl rfl rfl rfl rfl ?_
                 refine W_nil ?_
                 exact N_step rfl rfl (Below.refl _ _)
                ·
                 intro w82 vq82 hB82 hH82
                 have hS82 := hS63.below hB82
                 refine W_guard_no rfl rfl rfl rfl rfl ?_
                 refine W_nil ?_
                 exact N_step rfl rfl (Below.refl _ _)
                ·
                 intro w83 vq83 hB83 hH83
                 have hS83 := hS63.below hB83
                 refine W_guard_no rfl rfl rfl rfl rfl ?_
                 refine W_nil ?_
                 exact N_step rfl rfl (Below.refl _ _)
                ·
                 intro w84 vq84 hB84 hH84
                 have hS84 := hS63.below hB84
                 refine W_guard_no rfl rfl rfl rfl rfl ?_
                 refine W_nil ?_
                 exact N_step rfl rfl (Below.refl _ _)
                ·
                 intro w85 vq85 hB85 hH85
                 have hS85 := hS63.below hB85
                 refine W_guard_no rfl rfl rfl rfl rfl ?_
                 refine W_nil ?_
                 exact N_step rfl rfl (Below.refl _ _)
                ·
                 intro w86 vq86 hB86 hH86
                 have hS86 := hS63.below hB86
                 refine W_guard_no rfl rfl rfl rfl rfl ?_
                 refine W_nil ?_
                 exact N_step rfl rfl (Below.refl _ _)
                ·
                 intro w87 vq87 hB87 hH87
                 have hS87 := hS63.below hB87
                 refine W_guard_no rfl rfl rfl rfl rfl ?_
                 refine W_nil ?_
                 exact N_step rfl rfl (Below.refl _ _)
                ·
                 intro w88 vq88 hB88 hH88
                 have hS88 := hS63.below hB88
                 refine W_guard_no rfl rfl rfl rfl rfl ?_
                 refine W_nil ?_
                 exact N_step rfl rfl (Below.refl _ _)
                ·
                 intro w89 vq89 hB89 hH89
                 have hS89 := hS63.below hB89
                 refine W_guard_no rfl rfl rfl rfl rfl ?_
                 refine W_nil ?_
                 exact N_step rfl rfl (Below.refl _ _)
                ·
                 intro w90 vq90 hB90 hH90
                 have hS90 := hS63.below hB90
                 refine W_guard_no rfl rfl rfl rfl rfl ?_
                 refine W_nil ?_
                 exact N_step rfl rfl (Below.refl _ _)
                ·
                 intro w91 vq91 hB91 hH91
                 have hS91 := hS63.below hB91
                 refine W_guard_no rfl rfl rfl rfl rfl ?_
                 refine W_nil ?_
                 exact N_step rfl rfl (Below.refl _ _)
                ·
                 intro w92 vq92 hB92 hH92
                 have hS92 := hS63.below hB92
                 refine W_guard_no rfl rfl rfl rfl rfl ?_
                 refine W_nil ?_
                 exact N_step rfl rfl (Below.refl _ _)
                ·
                 intro w93 vq93 hB93 hH93
                 have hS93 := hS63.below hB93
                 refine W_guard_un rfl rfl rfl rfl ?_
                 refine W_nil ?_
                 exact N_step rfl rfl (Below.refl _ _)
                ·
                 intro w94 vq94 hB94 hH94
                 have hS94 := hS63.below hB94
                 refine W_guard_un rfl rfl rfl rfl ?_
                 refine W_nil ?_
                 exact N_step rfl rfl (Below.refl _ _)
                ·
                 intro w95 vq95 hB95 hH95
                 have hS95 := hS63.below hB95
                 refine W_guard_un rfl rfl rfl rfl ?_
                 refine W_nil ?_
                 exact N_step rfl rfl (Below.refl _ _)
                ·
                 intro w96 vq96 hB96 hH96
                 have hS96 := hS63.below hB96
                 refine W_guard_un rfl rfl rfl rfl ?_
                 refine W_nil ?_
                 exact N_step rfl rfl (Below.refl _ _)
                ·
                 intro w97 vq97 hB97 hH97
                 have hS97 := hS63.below hB97
                 refine W_guard_un rfl rfl rfl rfl ?_
                 refine W_nil ?_
                 exact N_step rfl rfl (Below.refl _ _)
                ·
                 intro w98 vq98 hB98 hH98
                 have hS98 := hS63.below hB98
                 refine W_guard_un rfl rfl rfl rfl ?_
                 refine W_nil ?_
                 exact N_step rfl rfl (Below.refl _ _)
                ·
                 intro w99 vq99 hB99 hH99
                 have hS99 := hS63.below hB99
                 refine W_guard_un rfl rfl rfl rfl ?_
                 refine W_nil ?_
                 exact N_step rfl rfl (Below.refl _ _)
                ·
                 intro w100 vq100 hB100 hH100
                 have hS100 := hS63.below hB100
                 refine W_guard_un rfl rfl rfl rfl ?_
                 refine W_nil ?_
                 exact N_step rfl rfl (Below.refl _ _)
                ·
                 intro w101 vq101 hB101 hH101
                 have hS101 := hS63.below hB101
                 refine W_guard_un rfl rfl rfl rfl ?_
                 refine W_nil ?_
                 exact N_step rfl rfl (Below.refl _ _)
                ·
                 intro w102 vq102 hB102 hH102
                 have hS102 := hS63.below hB102
                 refine W_guard_un rfl rfl rfl rfl ?_
                 refine W_nil ?_
                 exact N_step rfl rfl (Below.refl _ _)
                ·
                 intro w103 vq103 hB103 hH103
                 have hS103 := hS63.below hB103
                 refine W_guard_un rfl rfl rfl rfl ?_
                 refine W_nil ?_
                 exact N_step rfl rfl (Below.refl _ _)
                ·
                 intro w104 vq104 hB104 hH104
                 have hS104 := hS63.below hB104
                 refine W_guard_no rfl rfl rfl rfl rfl ?_
                 refine W_nil ?_
                 exact N_step rfl rfl (Below.refl _ _)
               intro w105 vq105 hB105 hH105
               have hS105 := hS63.below hB105
               refine W_pick_t rfl rfl rfl ?_
               refine W_assign rfl rfl ?_
               refine W_nil ?_
               exact N_join _ ⟨rfl, F63, (Frz.le.refl _), hS105⟩ ⟨rfl, rfl, rfl, (look_bool rfl (by first | rfl | (rw [hb78]; first | done | rfl) | simp [hb78])), rfl, trivial⟩
              ·
               rcases Bool.eq_false_or_eq_true (x68.path == x70.path) with hb106 | hb106
               ·
                have hy107 := hx68
                rw [only_t (by first | rfl | (rw [hb78]; first | done | rfl) | simp [hb78, hb106])] at hy107
                obtain ⟨hp108, hy108⟩ := ix_some hy107
                obtain ⟨cs108, hr108, he108⟩ := (hf26.mono (((ler25.trans le32).trans le55).trans le63)).at_ hy108
                obtain ⟨ue69_0, rfl, hue69_0⟩ := hr108
                replace he108 : Elf _ _ 2 _ _ := he108
                have hy109 := hx70
                rw [only_t (by first | rfl | (rw [hb78]; first | done | rfl) | simp [hb78, hb106])] at hy109
                obtain ⟨hp110, hy110⟩ := ix_some hy109
                obtain ⟨cs110, hr110, he110⟩ := (h0.mono (((((((((ler4.trans le6).trans le11).trans ler10).trans le14).trans le26).trans ler25).trans le32).trans le55).trans le63)).at_ hy110
                obtain ⟨ue71_0, rfl, hue71_0⟩ := hr110
                replace he110 : Elf _ _ 2 _ _ := he110
                have hy111 := hx72
                rw [only_t (by first | rfl | (rw [hb106, hb78]; first | done | rfl) | simp [hb78, hb106])] at hy111
                obtain ⟨hp112, hy112⟩ := ix_some hy111
                obtain ⟨cs112, hr112, he112⟩ := (hf26.mono (((ler25.trans le32).trans le55).trans le63)).at_ hy112
                obtain ⟨ue73_0, rfl, hue73_0⟩ := hr112
                replace he112 : Elf _ _ 2 _ _ := he112
                have hy113 := hx74
                rw [only_t (by first | rfl | (rw [hb106, hb78]; first | done | rfl) | simp [hb78, hb106])] at hy113
                obtain ⟨hp114, hy114⟩ := ix_some hy113
                obtain ⟨cs114, hr114, he114⟩ := (h0.mono (((((((((ler4.trans le6).trans le11).trans ler10).trans le14).trans le26).trans ler25).trans le32).trans le55).trans le63)).at_ hy114
                obtain ⟨ue75_0, rfl, hue75_0⟩ := hr114
                replace he114 : Elf _ _ 2 _ _ := he114
                apply C_draw 26 [[], [0], [1], [1], [2, 3, 1], [4, 1], [5, 1], [1], [1], [7, 8, 1], [9, 1], [10, 1], [6, 11, 1], [12, 1], [13], [13], [14, 15, 13], [16, 13], [17, 13], [13], [13], [19, 20, 13], [21, 13], [22, 13], [18, 23, 13], [13, 24, 1]] [.val (.bool b64), .val (.bool false), .val (ur4_0), .val (.int .i64 i65), .val (elp ur4_0 (i65.toNat * 2)), .val (elp ur4_0 ((i65.toNat * 2) + 0)), .val (strV x68.path), .val (v0), .val (.int .i64 i56), .val (elp v0 (i56.toNat * 2)), .val (elp v0 ((i56.toNat * 2) + 0)), .val (strV x70.path), .val (.bool (x68.path == x70.path)), .val (.bool true), .val (ur4_0), .val (.int .i64 i65), .val (elp ur4_0 (i65.toNat * 2)), .val (elp ur4_0 ((i65.toNat * 2) + 1)), .val (ue73_0), .val (v0), .val (.int .i64 i56), .val (elp v0 (i56.toNat * 2)), .val (elp v0 ((i56.toNat * 2) + 1)), .val (ue75_0), .val (.bool r76), .val (.bool r76)] Ty.mixed rfl rfl (by kernel_rfl) (by kernel_rfl) rfl
                ·
                 refine ⟨?_, ?_, ?_, ?_, ?_, ?_, ?_, ?_, ?_, ?_, ?_, ?_, ?_, ?_, ?_, ?_, ?_, ?_, ?_, ?_, ?_, ?_, ?_, ?_, ?_, ?_, trivial⟩
                 ·
                  intro w115 vq115 hB115 hH115
                  have hS115 := hS63.below hB115
                  refine W_move rfl rfl ?_
                  refine W_nil ?_
                  exact N_step rfl rfl (Below.refl _ _)
                 ·
                  intro w116 vq116 hB116 hH116
                  have hS116 := hS63.below hB116
                  refine W_move rfl rfl ?_
                  refine W_nil ?_
                  exact N_step rfl (congrArg Value.bool hb78) (Below.refl _ _)
                 ·
                  intro w117 vq117 hB117 hH117
                  have hS117 := hS63.below hB117
                  refine W_guard_yes rfl ?_
                  refine W_move rfl rfl ?_
                  refine W_nil ?_
                  exact N_step rfl rfl (Below.refl _ _)
                 ·
                  intro w118 vq118 hB118 hH118
                  have hS118 := hS63.below hB118
                  refine W_guard_yes rfl ?_
                  refine W_move rfl rfl ?_
                  refine W_nil ?_
                  exact N_step rfl rfl (Below.refl _ _)
                 ·
                  intro w119 vq119 hB119 hH119
                  have hS119 := hS63.below hB119
                  refine W_guard_yes rfl ?_
                  refine W_ix rfl Go.Proofs.Try.underlying27 Ty.cells34 Ty.info34 rfl rfl (he108.el hS119.agree) hp108 rfl ?_
                  refine W_nil ?_
                  exact N_step rfl rfl (Below.refl _ _)
                 ·
                  intro w120 vq120 hB120 hH120
                  have hS120 := hS63.below hB120
                  refine W_guard_yes rfl ?_
                  refine W_fld 0 rfl Ty.field34_0 rfl (he108.el hS120.agree) ?_
                  refine W_nil ?_
                  exact N_step rfl rfl (Below.refl _ _)
                 ·
                  intro w121 vq121 hB121 hH121
                  have hS121 := hS63.below hB121
                  refine W_guard_yes rfl ?_
                  refine W_ld1 0 rfl Ty.cell9 rfl (he108.el hS121.agree) (by omega) rfl ?_
                  refine W_nil ?_
                  exact N_step rfl rfl (Below.refl _ _)
                 ·
                  intro w122 vq122 hB122 hH122
                  have hS122 := hS63.below hB122
                  refine W_guard_yes rfl ?_
                  refine W_move rfl rfl ?_
                  refine W_nil ?_
                  exact N_step rfl rfl (Below.refl _ _)
                 ·
                  intro w123 vq123 hB123 hH123
                  have hS123 := hS63.below hB123
                  refine W_guard_yes rfl ?_
                  refine W_move rfl rfl ?_
                  refine W_nil ?_
                  exact N_step rfl rfl (Below.refl _ _)
                 ·
                  intro w124 vq124 hB124 hH124
                  have hS124 := hS63.below hB124
                  refine W_guard_yes rfl ?_
                  refine W_ix rfl Go.Proofs.Try.underlying27 Ty.cells34 Ty.info34 rfl rfl (he110.el hS124.agree) hp110 rfl ?_
                  refine W_nil ?_
                  exact N_step rfl rfl (Below.refl _ _)
                 ·
                  intro w125 vq125 hB125 hH125
                  have hS125 := hS63.below hB125
                  refine W_guard_yes rfl ?_
                  refine W_fld 0 rfl Ty.field34_0 rfl (he110.el hS125.agree) ?_
                  refine W_nil ?_
                  exact N_step rfl rfl (Below.refl _ _)
                 ·
                  intro w126 vq126 hB126 hH126
                  have hS126 := hS63.below hB126
                  refine W_guard_yes rfl ?_
                  refine W_ld1 0 rfl Ty.cell9 rfl (he110.el hS126.agree) (by omega) rfl ?_
                  refine W_nil ?_
                  exact N_step rfl rfl (Below.refl _ _)
                 ·
                  intro w127 vq127 hB127 hH127
                  have hS127 := hS63.below hB127
                  refine W_guard_yes rfl ?_
                  refine W_eqlS rfl rfl rfl ?_
                  refine W_nil ?_
                  exact N_step rfl rfl (Below.refl _ _)
                 ·
                  intro w128 vq128 hB128 hH128
                  have hS128 := hS63.below hB128
                  refine W_guard_yes rfl ?_
                  refine W_move rfl rfl ?_
                  refine W_nil ?_
                  exact N_step rfl (congrArg Value.bool hb106) (Below.refl _ _)
                 ·
                  intro w129 vq129 hB129 hH129
                  have hS129 := hS63.below hB129
                  refine W_guard_yes rfl ?_
                  refine W_move rfl rfl ?_
                  refine W_nil ?_
                  exact N_step rfl rfl (Below.refl _ _)
                 ·
                  intro w130 vq130 hB130 hH130
                  have hS130 := hS63.below hB130
                  refine W_guard_yes rfl ?_
                  refine W_move rfl rfl ?_
                  refine W_nil ?_
                  exact N_step rfl rfl (Below.refl _ _)
                 ·
                  intro w131 vq131 hB131 hH131
                  have hS131 := hS63.below hB131
                  refine W_guard_yes rfl ?_
                  refine W_ix rfl Go.Proofs.Try.underlying27 Ty.cells34 Ty.info34 rfl rfl (he112.el hS131.agree) hp112 rfl ?_
                  refine W_nil ?_
                  exact N_step rfl rfl (Below.refl _ _)
                 ·
                  intro w132 vq132 hB132 hH132
                  have hS132 := hS63.below hB132
                  refine W_guard_yes rfl ?_
                  refine W_fld 1 rfl Ty.field34_1 rfl (he112.el hS132.agree) ?_
                  refine W_nil ?_
                  exact N_step rfl rfl (Below.refl _ _)
                 ·
                  intro w133 vq133 hB133 hH133
                  have hS133 := hS63.below hB133
                  refine W_guard_yes rfl ?_
                  refine W_ld1 1 rfl Ty.cell25 rfl (he112.el hS133.agree) (by omega) rfl ?_
                  refine W_nil ?_
                  exact N_step rfl rfl (Below.refl _ _)
                 ·
                  intro w134 vq134 hB134 hH134
                  have hS134 := hS63.below hB134
                  refine W_guard_yes rfl ?_
                  refine W_move rfl rfl ?_
                  refine W_nil ?_
                  exact N_step rfl rfl (Below.refl _ _)
                 ·
                  intro w135 vq135 hB135 hH135
                  have hS135 := hS63.below hB135
                  refine W_guard_yes rfl ?_
                  refine W_move rfl rfl ?_
                  refine W_nil ?_
                  exact N_step rfl rfl (Below.refl _ _)
                 ·
                  intro w136 vq136 hB136 hH136
                  have hS136 := hS63.below hB136
                  refine W_guard_yes rfl ?_
                  refine W_ix rfl Go.Proofs.Try.underlying27 Ty.cells34 Ty.info34 rfl rfl (he114.el hS136.agree) hp114 rfl ?_
                  refine W_nil ?_
                  exact N_step rfl rfl (Below.refl _ _)
                 ·
                  intro w137 vq137 hB137 hH137
                  have hS137 := hS63.below hB137
                  refine W_guard_yes rfl ?_
                  refine W_fld 1 rfl Ty.field34_1 rfl (he114.el hS137.agree) ?_
                  refine W_nil ?_
                  exact N_step rfl rfl (Below.refl _ _)
                 ·
                  intro w138 vq138 hB138 hH138
                  have hS138 := hS63.below hB138
                  refine W_guard_yes rfl ?_
                  refine W_ld1 1 rfl Ty.cell25 rfl (he114.el hS138.agree) (by omega) rfl ?_
                  refine W_nil ?_
                  exact N_step rfl rfl (Below.refl _ _)
                 ·
                  intro w139 vq139 hB139 hH139
                  have hS139 := hS63.below hB139
                  refine W_guard_yes rfl ?_
                  have hy140 := hr76
                  rw [only_t (by first | rfl | (rw [hb106, hb78]; first | done | rfl) | simp [hb78, hb106])] at hy140
                  refine W_call rfl Ty.named28 rfl (cellarerkeep_Bytes_ok hS139.agree hue73_0 hue75_0 hy140) ?_
                  rintro v141 w141 ⟨Fr76, rfl, hT141⟩
                  have hS141 := hS139.lent hT141
                  refine W_nil ?_
                  exact N_step rfl rfl hT141.below0
                 ·
                  intro w142 vq142 hB142 hH142
                  have hS142 := hS63.below hB142
                  refine W_guard_yes rfl ?_
                  refine W_pick_t rfl rfl rfl ?_
                  refine W_nil ?_
                  exact N_step rfl rfl (Below.refl _ _)
                intro w143 vq143 hB143 hH143
                have hS143 := hS63.below hB143
                refine W_pick_f rfl rfl rfl ?_
                refine W_assign rfl rfl ?_
                refine W_nil ?_
                exact N_join _ ⟨rfl, F63, (Frz.le.refl _), hS143⟩ ⟨rfl, rfl, rfl, (look_bool rfl (by first | rfl | (rw [hb106, hb78]; first | done | rfl) | simp [hb78, hb106])), rfl, trivial⟩
               ·
                have hy144 := hx68
                rw [only_t (by first | rfl | (rw [hb78]; first | done | rfl) | simp [hb78, hb106])] at hy144
                obtain ⟨hp145, hy145⟩ := ix_some hy144
                obtain ⟨cs145, hr145, he145⟩ := (hf26.mono (((ler25.trans le32).trans le55).trans le63)).at_ hy145
                obtain ⟨ue69_0, rfl, hue69_0⟩ := hr145
                replace he145 : Elf _ _ 2 _ _ := he145
                have hy146 := hx70
                rw [only_t (by first | rfl | (rw [hb78]; first | done | rfl) | simp [hb78, hb106])] at hy146
                obtain ⟨hp147, hy147⟩ := ix_some hy146
                obtain ⟨cs147, hr147, he147⟩ := (h0.mono (((((((((ler4.trans le6).trans le11).trans ler10).trans le14).trans le26).trans ler25).trans le32).trans le55).trans le63)).at_ hy147
                obtain ⟨ue71_0, rfl, hue71_0⟩ := hr147
                replace he147 : Elf _ _ 2 _ _ := he147
                apply C_draw 26 [[], [0], [1], [1], [2, 3, 1], [4, 1], [5, 1], [1], [1], [7, 8, 1], [9, 1], [10, 1], [6, 11, 1], [12, 1], [13], [13], [14, 15, 13], [16, 13], [17, 13], [13], [13], [19, 20, 13], [21, 13], [22, 13], [18, 23, 13], [13, 24, 1]] [.val (.bool b64), .val (.bool false), .val (ur4_0), .val (.int .i64 i65), .val (elp ur4_0 (i65.toNat * 2)), .val (elp ur4_0 ((i65.toNat * 2) + 0)), .val (strV x68.path), .val (v0), .val (.int .i64 i56), .val (elp v0 (i56.toNat * 2)), .val (elp v0 ((i56.toNat * 2) + 0)), .val (strV x70.path), .val (.bool (x68.path == x70.path)), .val (.bool false), .val undef, .val undef, .val undef, .val undef, .val undef, .val undef, .val undef, .val undef, .val undef, .val undef, .val undef, .val (.bool false)] Ty.mixed rfl rfl (by kernel_rfl) (by kernel_rfl) rfl
                ·
                 refine ⟨?_, ?_, ?_, ?_, ?_, ?_, ?_, ?_, ?_, ?_, ?_, ?_, ?_, ?_, ?_, ?_, ?_, ?_, ?_, ?_, ?_, ?_, ?_, ?_, ?_, ?_, trivial⟩
                 ·
                  intro w148 vq148 hB148 hH148
                  have hS148 := hS63.below hB148
                  refine W_move rfl rfl ?_
                  refine W_nil ?_
                  exact N_step rfl rfl (Below.refl _ _)
                 ·
                  intro w149 vq149 hB149 hH149
                  have hS149 := hS63.below hB149
                  refine W_move rfl rfl ?_
                  refine W_nil ?_
                  exact N_step rfl (congrArg Value.bool hb78) (Below.refl _ _)
                 ·
                  intro w150 vq150 hB150 hH150
                  have hS150 := hS63.below hB150
                  refine W_guard_yes rfl ?_
                  refine W_move rfl rfl ?_
                  refine W_nil ?_
                  exact N_step rfl rfl (Below.refl _ _)
                 ·
                  intro w151 vq151 hB151 hH151
                  have hS151 := hS63.below hB151
                  refine W_guard_yes rfl ?_
                  refine W_move rfl rfl ?_
                  refine W_nil ?_
                  exact N_step rfl rfl (Below.refl _ _)
                 ·
                  intro w152 vq152 hB152 hH152
                  have hS152 := hS63.below hB152
                  refine W_guard_yes rfl ?_
                  refine W_ix rfl Go.Proofs.Try.underlying27 Ty.cells34 Ty.info34 rfl rfl (he145.el hS152.agree) hp145 rfl ?_
                  refine W_nil ?_
                  exact N_step rfl rfl (Below.refl _ _)
                 ·
                  intro w153 vq153 hB153 hH153
                  have hS153 := hS63.below hB153
                  refine W_guard_yes rfl ?_
                  refine W_fld 0 rfl Ty.field34_0 rfl (he145.el hS153.agree) ?_
                  refine W_nil ?_
                  exact N_step rfl rfl (Below.refl _ _)
                 ·
                  intro w154 vq154 hB154 hH154
                  have hS154 := hS63.below hB154
                  refine W_guard_yes rfl ?_
                  refine W_ld1 0 rfl Ty.cell9 rfl (he145.el hS154.agree) (by omega) rfl ?_
                  refine W_nil ?_
                  exact N_step rfl rfl (Below.refl _ _)
                 ·
                  intro w155 vq155 hB155 hH155
                  have hS155 := hS63.below hB155
                  refine W_guard_yes rfl ?_
                  refine W_move rfl rfl ?_
                  refine W_nil ?_
                  exact N_step rfl rfl (Below.refl _ _)
                 ·
                  intro w156 vq156 hB156 hH156
                  have hS156 := hS63.below hB156
                  refine W_guard_yes rfl ?_
                  refine W_move rfl rfl ?_
                  refine W_nil ?_
                  exact N_step rfl rfl (Below.refl _ _)
                 ·
                  intro w157 vq157 hB157 hH157
                  have hS157 := hS63.below hB157
                  refine W_guard_yes rfl ?_
                  refine W_ix rfl Go.Proofs.Try.underlying27 Ty.cells34 Ty.info34 rfl rfl (he147.el hS157.agree) hp147 rfl ?_
                  refine W_nil ?_
                  exact N_step rfl rfl (Below.refl _ _)
                 ·
                  intro w158 vq158 hB158 hH158
                  have hS158 := hS63.below hB158
                  refine W_guard_yes rfl ?_
                  refine W_fld 0 rfl Ty.field34_0 rfl (he147.el hS158.agree) ?_
                  refine W_nil ?_
                  exact N_step rfl rfl (Below.refl _ _)
                 ·
                  intro w159 vq159 hB159 hH159
                  have hS159 := hS63.below hB159
                  refine W_guard_yes rfl ?_
                  refine W_ld1 0 rfl Ty.cell9 rfl (he147.el hS159.agree) (by omega) rfl ?_
                  refine W_nil ?_
                  exact N_step rfl rfl (Below.refl _ _)
                 ·
                  intro w160 vq160 hB160 hH160
                  have hS160 := hS63.below hB160
                  refine W_guard_yes rfl ?_
                  refine W_eqlS rfl rfl rfl ?_
                  refine W_nil ?_
                  exact N_step rfl rfl (Below.refl _ _)
                 ·
                  intro w161 vq161 hB161 hH161
                  have hS161 := hS63.below hB161
                  refine W_guard_yes rfl ?_
                  refine W_move rfl rfl ?_
                  refine W_nil ?_
                  exact N_step rfl (congrArg Value.bool hb106) (Below.refl _ _)
                 ·
                  intro w162 vq162 hB162 hH162
                  have hS162 := hS63.below hB162
                  refine W_guard_no rfl rfl rfl rfl rfl ?_
                  refine W_nil ?_
                  exact N_step rfl rfl (Below.refl _ _)
                 ·
                  intro w163 vq163 hB163 hH163
                  have hS163 := hS63.below hB163
                  refine W_guard_no rfl rfl rfl rfl rfl ?_
                  refine W_nil ?_
                  exact N_step rfl rfl (Below.refl _ _)
                 ·
                  intro w164 vq164 hB164 hH164
                  have hS164 := hS63.below hB164
                  refine W_guard_no rfl rfl rfl rfl rfl ?_
                  refine W_nil ?_
                  exact N_step rfl rfl (Below.refl _ _)
                 ·
                  intro w165 vq165 hB165 hH165
                  have hS165 := hS63.below hB165
                  refine W_guard_no rfl rfl rfl rfl rfl ?_
                  refine W_nil ?_
                  exact N_step rfl rfl (Below.refl _ _)
                 ·
                  intro w166 vq166 hB166 hH166
                  have hS166 := hS63.below hB166
                  refine W_guard_no rfl rfl rfl rfl rfl ?_
                  refine W_nil ?_
                  exact N_step rfl rfl (Below.refl _ _)
                 ·
                  intro w167 vq167 hB167 hH167
                  have hS167 := hS63.below hB167
                  refine W_guard_no rfl rfl rfl rfl rfl ?_
                  refine W_nil ?_
                  exact N_step rfl rfl (Below.refl _ _)
                 ·
                  intro w168 vq168 hB168 hH168
                  have hS168 := hS63.below hB168
                  refine W_guard_no rfl rfl rfl rfl rfl ?_
                  refine W_nil ?_
                  exact N_step rfl rfl (Below.refl _ _)
                 ·
                  intro w169 vq169 hB169 hH169
                  have hS169 := hS63.below hB169
                  refine W_guard_no rfl rfl rfl rfl rfl ?_
                  refine W_nil ?_
                  exact N_step rfl rfl (Below.refl _ _)
                 ·
                  intro w170 vq170 hB170 hH170
                  have hS170 := hS63.below hB170
                  refine W_guard_no rfl rfl rfl rfl rfl ?_
                  refine W_nil ?_
                  exact N_step rfl rfl (Below.refl _ _)
                 ·
                  intro w171 vq171 hB171 hH171
                  have hS171 := hS63.below hB171
                  refine W_guard_no rfl rfl rfl rfl rfl ?_
                  refine W_nil ?_
                  exact N_step rfl rfl (Below.refl _ _)
                 ·
                  intro w172 vq172 hB172 hH172
                  have hS172 := hS63.below hB172
                  refine W_guard_no rfl rfl rfl rfl rfl ?_
                  refine W_nil ?_
                  exact N_step rfl rfl (Below.refl _ _)
                 ·
                  intro w173 vq173 hB173 hH173
                  have hS173 := hS63.below hB173
                  refine W_guard_yes rfl ?_
                  refine W_pick_f rfl rfl rfl ?_
                  refine W_nil ?_
                  exact N_step rfl rfl (Below.refl _ _)
                intro w174 vq174 hB174 hH174
                have hS174 := hS63.below hB174
                refine W_pick_f rfl rfl rfl ?_
                refine W_assign rfl rfl ?_
                refine W_nil ?_
                exact N_join _ ⟨rfl, F63, (Frz.le.refl _), hS174⟩ ⟨rfl, rfl, rfl, (look_bool rfl (by first | rfl | (rw [hb106, hb78]; first | done | rfl) | simp [hb78, hb106])), rfl, trivial⟩
             rintro E w77 ⟨rfl, F77, le77, hS77⟩
             refine N_block ?_
             refine N_code ?_
             refine C_region ?_
             refine W_move rfl rfl ?_
             refine W_add rfl rfl rfl rfl ?_
             refine W_assign rfl rfl ?_
             refine W_nil ?_
             exact N_againM ((b64 || ((x68.path == x70.path) && r76)), wr (i65 + 1)) _ H ⟨F77, rfl, (le63.trans le77), hS77⟩ ⟨rfl, rfl, rfl, rfl, rfl, trivial⟩
            ·
             rw [if_f hc67] at H
             refine C_exit _ rfl ?_
             exact N_join _ ⟨b64, H, ⟨F63, rfl, le63, hS63⟩⟩ ⟨rfl, rfl, rfl, rfl, trivial⟩
          ·
           rintro E w60 ⟨b61, H, F60, rfl, le60, hS60⟩
           dsimp only [cellarerlaw05_TreeSorts.k5] at H
           refine C_seq ?_
           refine C_region ?_
           refine W_move rfl rfl ?_
           refine W_not rfl rfl ?_
           refine W_nil ?_
           refine N_code ?_
           refine C_cond rfl (fun hc62 => ?_) (fun hc62 => ?_)
           ·
            rw [if_t hc62] at H
            refine C_seq ?_
            refine C_region ?_
            refine W_assign rfl rfl ?_
            refine W_nil ?_
            refine N_code ?_
            obtain rfl := Option.some.inj H
            refine C_ret rfl rfl ?_
            exact ⟨F60, rfl, hS60⟩
           ·
            rw [if_f hc62] at H
            refine C_skip ?_
            refine N_block ?_
            exact N_join _ ⟨H, ⟨F60, rfl, le60, hS60⟩⟩ ⟨rfl, rfl, rfl, trivial⟩
         ·
          rintro E w59 ⟨H, F59, rfl, le59, hS59⟩
          dsimp only [cellarerlaw05_TreeSorts.k4] at H
          refine C_region ?_
          refine W_move rfl rfl ?_
          refine W_add rfl rfl rfl rfl ?_
          refine W_assign rfl rfl ?_
          refine W_nil ?_
          exact N_againM (wr (i56 + 1)) _ H ⟨F59, rfl, (le55.trans le59), hS59⟩ ⟨rfl, rfl, rfl, trivial⟩
        ·
         rw [if_f hc58] at H
         refine C_exit _ rfl ?_
         exact N_join _ ⟨H, ⟨F55, rfl, le55, hS55⟩⟩ trivial
      ·
       rintro E w52 ⟨H, F52, rfl, le52, hS52⟩
       dsimp only [cellarerlaw05_TreeSorts.k2] at H
       refine C_seq ?_
       obtain ⟨r53, hr53, H⟩ := bd_some H
       refine C_region ?_
       refine W_call rfl Ty.named16 rfl (cellarerlaw05_wakes_ok hS52.agree hr53) ?_
       rintro v54 w54 ⟨Fr53, rfl, hT54⟩
       have hS54 := hS52.lent hT54
       refine W_assign rfl rfl ?_
       refine W_nil ?_
       refine N_code ?_
       obtain rfl := Option.some.inj H
       refine C_ret rfl rfl ?_
       exact ⟨F52, rfl, hS54⟩

end
end Go.Wk.Lf
