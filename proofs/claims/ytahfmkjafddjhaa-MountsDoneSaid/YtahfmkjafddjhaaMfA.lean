import Derived.Test.YtahfmkjafddjhaaLfB
import Derived.Test.YtahfmkjafddjhaaMap
namespace Go.Wk.Lf
open Go.Proofs Go.RowKit
set_option linter.unusedVariables false
set_option linter.unusedSimpArgs false

def cellarerkeep_TwinInts (x0 : List Int) : Option (List Int) :=
  bd (app (α := Int) [] x0) fun l1 =>
  some l1

theorem cellarerkeep_TwinInts_ok {F : Frz} {w : World} {x0 : List Int} {r : (List Int)} {v0 : Value} (hA : Agree F w.heap) (h0 : SlF tI F v0 x0) (H : cellarerkeep_TwinInts x0 = some r) : Ret Try.prog 15 #[v0] w fun v w' => ∃ (F' : Frz) (q0 : Value), v = q0 ∧ St [] w F F' [.row tI 3 q0 (r)] w' := by
 refine Ret_of (args := [v0]) Go.Proofs.Try.func15 rfl rfl ?_
 change C _ _ _ _ [(0, v0)] _
 have hS := St.entry hA
 dsimp only [cellarerkeep_TwinInts] at H
 refine C_seq ?_
 refine C_region ?_
 refine W_assign rfl rfl ?_
 refine W_nil ?_
 refine N_code ?_
 refine C_seq ?_
 refine C_region ?_
 refine W_assign rfl rfl ?_
 refine W_nil ?_
 refine N_code ?_
 refine C_seq ?_
 obtain ⟨l1, hl1, H⟩ := bd_some H
 refine C_region ?_
 refine W_move rfl rfl ?_
 refine W_move rfl rfl ?_
 have hS3 := hS.nilRow tI 3
 refine W_appM 0 rfl Go.Proofs.Try.underlying22 Ty.row3 rfl rfl rfl rfl rfl hS3 rfl (h0.src hS3.agree) hl1 ?_
 intro v2 w2 hS2
 refine W_assign rfl rfl ?_
 refine W_nil ?_
 refine N_code ?_
 obtain rfl := Option.some.inj H
 refine C_ret rfl rfl ?_
 exact ⟨F, v2, rfl, hS2⟩

def mounts_wrong_1 (x0 : Read) : Option Bool :=
  some (decide (x0.loc.vol < 0))

theorem mounts_wrong_1_ok {F : Frz} {w : World} {x0 : Read} {r : Bool} (hA : Agree F w.heap) (H : mounts_wrong_1 x0 = some r) : Ret Try.prog 52 #[.agg (Read.cells x0).toArray] w fun v w' => ∃ (F' : Frz), v = .bool r ∧ St [] w F F' [] w' := by
 refine Ret_of (args := [.agg (Read.cells x0).toArray]) Go.Proofs.Try.func52 rfl rfl ?_
 change C _ _ _ _ [(0, .agg (Read.cells x0).toArray)] _
 have hS := St.entry hA
 dsimp only [mounts_wrong_1] at H
 refine C_seq ?_
 refine C_region ?_
 refine W_bx (cs := [.int .i64 x0.want, .int .i64 x0.loc.vol, .int .i64 x0.loc.file, .int .i64 x0.loc.off, .int .i64 x0.loc.len]) rfl rfl rfl hS ?_
 intro g1 w1 hS1
 refine W_assign rfl rfl ?_
 refine W_nil ?_
 refine N_code ?_
 refine C_seq ?_
 refine C_region ?_
 refine W_field_pl 1 rfl Ty.field39_1 rfl ?_
 refine W_field_pl 0 rfl Ty.field37_0 rfl ?_
 refine W_bld1 0 rfl Ty.cell3 rfl hS1 rfl rfl ?_
 refine W_lss rfl rfl rfl ?_
 refine W_assign rfl rfl ?_
 refine W_nil ?_
 refine N_code ?_
 obtain rfl := Option.some.inj H
 refine C_ret rfl rfl ?_
 exact ⟨F, rfl, hS1.pick [] (by decide)⟩

def slices_IndexFunc_api_Read_api_Read_mounts_wrong_1.k1 : Option Int :=
  some (-1)


def slices_IndexFunc_api_Read_api_Read_mounts_wrong_1.l2 (x0 : List Read) (rec4 : Int → Option Int) : Int → Option Int
  | i3 =>
    if decide (i3 < (x0.length : Int)) then
      bd (ix x0 i3) fun x6 =>
      bd (mounts_wrong_1 x6) fun r8 =>
      if r8 then
        some i3
      else
        rec4 (wr (i3 + 1))
    else
      slices_IndexFunc_api_Read_api_Read_mounts_wrong_1.k1

def slices_IndexFunc_api_Read_api_Read_mounts_wrong_1 (x0 : List Read) : Option Int :=
  loop (slices_IndexFunc_api_Read_api_Read_mounts_wrong_1.l2 x0) 0

theorem slices_IndexFunc_api_Read_api_Read_mounts_wrong_1_ok {F : Frz} {w : World} {x0 : List Read} {r : Int} {v0 : Value} (hA : Agree F w.heap) (h0 : SlF Read.t F v0 x0) (H : slices_IndexFunc_api_Read_api_Read_mounts_wrong_1 x0 = some r) : Ret Try.prog 58 #[v0, .func (.func 52) #[] #[]] w fun v w' => ∃ (F' : Frz), v = .int .i64 r ∧ St [] w F F' [] w' := by
 refine Ret_of (args := [v0, .func (.func 52) #[] #[]]) Go.Proofs.Try.func58 rfl rfl ?_
 change C _ _ _ _ [(0, v0), (1, .func (.func 52) #[] #[])] _
 have hS := St.entry hA
 dsimp only [slices_IndexFunc_api_Read_api_Read_mounts_wrong_1] at H
 refine C_seq ?_
 refine C_region ?_
 refine W_assign rfl rfl ?_
 refine W_nil ?_
 refine N_code ?_
 refine C_seq_join (fun E wq => slices_IndexFunc_api_Read_api_Read_mounts_wrong_1.k1 = some r ∧ ∃ (F1 : Frz), E = [] ∧ F.le F1 ∧ St [] w F F1 [] wq) ?_ ?_
 ·
  refine C_seq ?_
  refine C_region ?_
  refine W_move rfl rfl ?_
  refine W_lenv rfl Go.Proofs.Try.underlying23 rfl h0.ln ?_
  refine W_move rfl rfl ?_
  refine W_nil ?_
  refine N_code ?_
  refine C_block ?_
  refine C_loopM (fun (s : Int) E wq => ∃ (F2 : Frz), E = [(0, v0), (1, .func (.func 52) #[] #[]), (7, .int .i64 (x0.length : Int)), (8, .int .i64 s)] ∧ F.le F2 ∧ St [] w F F2 [] wq) H ?_ ?_
  ·
   exact ⟨_, ⟨F, rfl, (Frz.le.refl _), hS⟩, ⟨rfl, rfl, rfl, rfl, trivial⟩⟩
  ·
   rintro rec4 i3 E w2 hI H
   try dsimp only at hI
   obtain ⟨F2, rfl, le2, hS2⟩ := hI
   dsimp only [slices_IndexFunc_api_Read_api_Read_mounts_wrong_1.l2] at H
   refine C_seq ?_
   refine C_region ?_
   refine W_lss rfl rfl rfl ?_
   refine W_nil ?_
   refine N_code ?_
   refine C_seq ?_
   refine C_cond rfl (fun hc5 => ?_) (fun hc5 => ?_)
   ·
    rw [if_t hc5] at H
    refine C_skip ?_
    refine N_code ?_
    refine C_seq ?_
    refine C_block ?_
    refine C_seq ?_
    refine C_region ?_
    refine W_move rfl rfl ?_
    refine W_assign rfl rfl ?_
    refine W_nil ?_
    refine N_code ?_
    refine C_seq ?_
    obtain ⟨x6, hx6, H⟩ := bd_some H
    obtain ⟨r8, hr8, H⟩ := bd_some H
    refine C_region ?_
    refine W_move rfl rfl ?_
    refine W_move rfl rfl ?_
    refine W_move rfl rfl ?_
    obtain ⟨hp9, hy9⟩ := ix_some hx6
    obtain ⟨cs9, hr9, he9⟩ := (h0.mono le2).at_ hy9
    obtain rfl := hr9
    replace he9 : Elf _ _ 5 _ _ := he9
    refine W_ix rfl Go.Proofs.Try.underlying23 Ty.cells39 Ty.info39 rfl rfl (he9.el hS2.agree) hp9 rfl ?_
    refine W_ldg 0 ((Read.cells x6)) rfl Ty.agg39 Ty.size39 rfl (he9.el hS2.agree) (by omega) (fun q u h => sub_at (post := []) rfl h) ?_
    refine W_callv rfl Ty.named52 rfl rfl (mounts_wrong_1_ok hS2.agree hr8) ?_
    rintro v10 w10 ⟨Fr8, rfl, hT10⟩
    have hS10 := hS2.lent hT10
    refine W_nil ?_
    refine N_code ?_
    refine C_cond rfl (fun hc11 => ?_) (fun hc11 => ?_)
    ·
     rw [if_t hc11] at H
     refine C_seq ?_
     refine C_region ?_
     refine W_move rfl rfl ?_
     refine W_assign rfl rfl ?_
     refine W_nil ?_
     refine N_code ?_
     obtain rfl := Option.some.inj H
     refine C_ret rfl rfl ?_
     exact ⟨F2, rfl, hS10⟩
    ·
     rw [if_f hc11] at H
     refine C_skip ?_
     refine N_block ?_
     refine N_code ?_
     refine C_region ?_
     refine W_add rfl rfl rfl rfl ?_
     refine W_move rfl rfl ?_
     refine W_nil ?_
     exact N_againM (wr (i3 + 1)) _ H ⟨F2, rfl, le2, hS10⟩ ⟨rfl, rfl, rfl, rfl, trivial⟩
   ·
    rw [if_f hc5] at H
    refine C_exit _ rfl ?_
    exact N_join _ ⟨H, ⟨F2, rfl, le2, hS2⟩⟩ trivial
 ·
  rintro E w1 ⟨H, F1, rfl, le1, hS1⟩
  dsimp only [slices_IndexFunc_api_Read_api_Read_mounts_wrong_1.k1] at H
  refine C_seq ?_
  refine C_region ?_
  refine W_assign rfl rfl ?_
  refine W_nil ?_
  refine N_code ?_
  obtain rfl := Option.some.inj H
  refine C_ret rfl rfl ?_
  exact ⟨F1, rfl, hS1⟩

def slices_ContainsFunc_api_Read_api_Read_mounts_wrong_1 (x0 : List Read) : Option Bool :=
  bd (slices_IndexFunc_api_Read_api_Read_mounts_wrong_1 x0) fun r1 =>
  some (decide (0 ≤ r1))

theorem slices_ContainsFunc_api_Read_api_Read_mounts_wrong_1_ok {F : Frz} {w : World} {x0 : List Read} {r : Bool} {v0 : Value} (hA : Agree F w.heap) (h0 : SlF Read.t F v0 x0) (H : slices_ContainsFunc_api_Read_api_Read_mounts_wrong_1 x0 = some r) : Ret Try.prog 51 #[v0, .func (.func 52) #[] #[]] w fun v w' => ∃ (F' : Frz), v = .bool r ∧ St [] w F F' [] w' := by
 refine Ret_of (args := [v0, .func (.func 52) #[] #[]]) Go.Proofs.Try.func51 rfl rfl ?_
 change C _ _ _ _ [(0, v0), (1, .func (.func 52) #[] #[])] _
 have hS := St.entry hA
 dsimp only [slices_ContainsFunc_api_Read_api_Read_mounts_wrong_1] at H
 refine C_seq ?_
 refine C_region ?_
 refine W_assign rfl rfl ?_
 refine W_nil ?_
 refine N_code ?_
 refine C_seq ?_
 obtain ⟨r1, hr1, H⟩ := bd_some H
 refine C_region ?_
 refine W_move rfl rfl ?_
 refine W_move rfl rfl ?_
 refine W_call rfl Ty.named58 rfl (slices_IndexFunc_api_Read_api_Read_mounts_wrong_1_ok hS.agree h0 hr1) ?_
 rintro v2 w2 ⟨Fr1, rfl, hT2⟩
 have hS2 := hS.lent hT2
 refine W_geq rfl rfl rfl ?_
 refine W_assign rfl rfl ?_
 refine W_nil ?_
 refine N_code ?_
 obtain rfl := Option.some.inj H
 refine C_ret rfl rfl ?_
 exact ⟨F, rfl, hS2⟩

def mounts_wrong.k1 (x1 : List Read) : Option Int :=
  if decide (32768 < (x1.length : Int)) then
    some 2
  else
    bd (slices_ContainsFunc_api_Read_api_Read_mounts_wrong_1 x1) fun r6 =>
    if r6 then
      some 1
    else
      some 0


def mounts_wrong.l2 (x0 : List Int) (x1 : List Read) (rec11 : Int → Option Int) : Int → Option Int
  | i10 =>
    if decide (i10 < (x0.length : Int)) then
      bd (ix x0 i10) fun x13 =>
      bd (only (decide (0 ≤ x13)) (cut (α := Int) x0 0 i10) []) fun l16 =>
      bd (only (decide (0 ≤ x13)) (slices_Contains_int_int l16 x13) false) fun r18 =>
      if (decide (0 ≤ x13) && r18) then
        some 1
      else
        rec11 (wr (i10 + 1))
    else
      mounts_wrong.k1 x1

def mounts_wrong (x0 : List Int) (x1 : List Read) : Option Int :=
  if (decide ((x0.length : Int) < 1) || decide (4 < (x0.length : Int))) then
    some 2
  else
    loop (mounts_wrong.l2 x0 x1) 0

theorem mounts_wrong_ok {F : Frz} {w : World} {x0 : List Int} {x1 : List Read} {r : Int} {v0 : Value} {v1 : Value} (hA : Agree F w.heap) (h0 : SlF tI F v0 x0) (h1 : SlF Read.t F v1 x1) (H : mounts_wrong x0 x1 = some r) : Ret Try.prog 38 #[v0, v1] w fun v w' => ∃ (F' : Frz), v = .int .i64 r ∧ St [] w F F' [] w' := by
 refine Ret_of (args := [v0, v1]) Go.Proofs.Try.func38 rfl rfl ?_
 change C _ _ _ _ [(0, v0), (1, v1)] _
 have hS := St.entry hA
 dsimp only [mounts_wrong] at H
 refine C_seq ?_
 refine C_region ?_
 refine W_assign rfl rfl ?_
 refine W_nil ?_
 refine N_code ?_
 refine C_seq ?_
 refine C_seq ?_
 refine C_join (fun E wq => E = [(0, v0), (1, v1), (14, .bool (decide ((x0.length : Int) < 1) || decide (4 < (x0.length : Int))))] ∧ ∃ F1 : Frz, F.le F1 ∧ St [] w F F1 [] wq) ?_ ?_
 ·
  rcases Bool.eq_false_or_eq_true (decide ((x0.length : Int) < 1)) with hb2 | hb2
  ·
   refine C_region ?_
   refine W_move rfl rfl ?_
   refine W_lenv rfl Go.Proofs.Try.underlying22 rfl h0.ln ?_
   refine W_lss rfl rfl rfl ?_
   refine W_move rfl rfl ?_
   refine W_known (t := 10) true rfl hb2 ?_
   refine W_guard_no rfl rfl rfl rfl rfl ?_
   refine W_guard_no rfl rfl rfl rfl rfl ?_
   refine W_guard_no rfl rfl rfl rfl rfl ?_
   refine W_pick_t rfl rfl rfl ?_
   refine W_nil ?_
   exact N_join _ ⟨rfl, F, (Frz.le.refl _), hS⟩ ⟨rfl, rfl, (look_bool rfl (by first | rfl | (rw [hb2]; first | done | rfl) | simp [hb2])), trivial⟩
  ·
   refine C_region ?_
   refine W_move rfl rfl ?_
   refine W_lenv rfl Go.Proofs.Try.underlying22 rfl h0.ln ?_
   refine W_lss rfl rfl rfl ?_
   refine W_move rfl rfl ?_
   refine W_known (t := 10) false rfl hb2 ?_
   refine W_guard_yes rfl ?_
   refine W_move rfl rfl ?_
   refine W_guard_yes rfl ?_
   refine W_lenv rfl Go.Proofs.Try.underlying22 rfl h0.ln ?_
   refine W_guard_yes rfl ?_
   refine W_gtr rfl rfl rfl ?_
   refine W_pick_f rfl rfl rfl ?_
   refine W_nil ?_
   exact N_join _ ⟨rfl, F, (Frz.le.refl _), hS⟩ ⟨rfl, rfl, (look_bool rfl (by first | rfl | (rw [hb2]; first | done | rfl) | simp [hb2])), trivial⟩
 rintro E w1 ⟨rfl, F1, le1, hS1⟩
 refine N_code ?_
 refine C_cond rfl (fun hc3 => ?_) (fun hc3 => ?_)
 ·
  rw [if_t hc3] at H
  refine C_seq ?_
  refine C_region ?_
  refine W_assign rfl rfl ?_
  refine W_nil ?_
  refine N_code ?_
  obtain rfl := Option.some.inj H
  refine C_ret rfl rfl ?_
  exact ⟨F1, rfl, hS1⟩
 ·
  rw [if_f hc3] at H
  refine C_skip ?_
  refine N_code ?_
  refine C_seq_join (fun E wq => mounts_wrong.k1 x1 = some r ∧ ∃ (F4 : Frz), E = [(1, v1)] ∧ F1.le F4 ∧ St [] w F F4 [] wq) ?_ ?_
  ·
   refine C_seq ?_
   refine C_region ?_
   refine W_move rfl rfl ?_
   refine W_lenv rfl Go.Proofs.Try.underlying22 rfl h0.ln ?_
   refine W_move rfl rfl ?_
   refine W_nil ?_
   refine N_code ?_
   refine C_block ?_
   refine C_loopM (fun (s : Int) E wq => ∃ (F9 : Frz), E = [(0, v0), (1, v1), (15, v0), (16, .int .i64 (x0.length : Int)), (17, .int .i64 s)] ∧ F1.le F9 ∧ St [] w F F9 [] wq) H ?_ ?_
   ·
    exact ⟨_, ⟨F1, rfl, (Frz.le.refl _), hS1⟩, ⟨rfl, rfl, rfl, rfl, rfl, trivial⟩⟩
   ·
    rintro rec11 i10 E w9 hI H
    try dsimp only at hI
    obtain ⟨F9, rfl, le9, hS9⟩ := hI
    dsimp only [mounts_wrong.l2] at H
    refine C_seq ?_
    refine C_region ?_
    refine W_lss rfl rfl rfl ?_
    refine W_nil ?_
    refine N_code ?_
    refine C_seq ?_
    refine C_cond rfl (fun hc12 => ?_) (fun hc12 => ?_)
    ·
     rw [if_t hc12] at H
     refine C_skip ?_
     refine N_code ?_
     refine C_seq ?_
     refine C_block ?_
     refine C_seq ?_
     obtain ⟨x13, hx13, H⟩ := bd_some H
     refine C_region ?_
     refine W_move rfl rfl ?_
     obtain ⟨hp15, hy15⟩ := ix_some hx13
     obtain ⟨cs15, hr15, he15⟩ := (h0.mono (le1.trans le9)).at_ hy15
     obtain rfl := hr15
     replace he15 : Elf _ _ 1 _ _ := he15
     refine W_ix rfl Go.Proofs.Try.underlying22 Ty.cells3 Ty.info3 rfl rfl (he15.el hS9.agree) hp15 rfl ?_
     refine W_ld1 0 rfl Ty.cell3 rfl (he15.el hS9.agree) (by omega) rfl ?_
     refine W_assign rfl rfl ?_
     refine W_assign rfl rfl ?_
     refine W_nil ?_
     refine N_code ?_
     refine C_seq ?_
     obtain ⟨l16, hl16, H⟩ := bd_some H
     obtain ⟨r18, hr18, H⟩ := bd_some H
     refine C_join (fun E wq => E = [(0, v0), (1, v1), (15, v0), (16, .int .i64 (x0.length : Int)), (17, .int .i64 i10), (30, .bool (decide (0 ≤ x13) && r18))] ∧ ∃ F19 : Frz, F9.le F19 ∧ St [] w F F19 [] wq) ?_ ?_
     ·
      rcases Bool.eq_false_or_eq_true (decide (0 ≤ x13)) with hb20 | hb20
      ·
       refine C_region ?_
       refine W_move rfl rfl ?_
       refine W_geq rfl rfl rfl ?_
       refine W_move rfl rfl ?_
       refine W_known (t := 24) true rfl hb20 ?_
       refine W_guard_yes rfl ?_
       refine W_move rfl rfl ?_
       refine W_guard_yes rfl ?_
       refine W_move rfl rfl ?_
       refine W_guard_yes rfl ?_
       have hy21 := hl16
       rw [only_t hb20] at hy21
       refine W_cutM 0 i10 rfl Go.Proofs.Try.underlying22 Ty.cells3 Ty.info3 rfl rfl ⟨_, rfl⟩ (h0.mono (le1.trans le9)) hy21 ?_
       intro q17 hv17
       refine W_guard_yes rfl ?_
       refine W_move rfl rfl ?_
       refine W_guard_yes rfl ?_
       have hy22 := hr18
       rw [only_t hb20] at hy22
       refine W_call rfl Ty.named50 rfl (slices_Contains_int_int_ok hS9.agree hv17 hy22) ?_
       rintro v23 w23 ⟨Fr18, rfl, hT23⟩
       have hS23 := hS9.lent hT23
       refine W_pick_t rfl rfl rfl ?_
       refine W_nil ?_
       exact N_join _ ⟨rfl, F9, (Frz.le.refl _), hS23⟩ ⟨rfl, rfl, rfl, rfl, rfl, (look_bool rfl (by first | rfl | (rw [hb20]; first | done | rfl) | simp [hb20])), trivial⟩
      ·
       refine C_region ?_
       refine W_move rfl rfl ?_
       refine W_geq rfl rfl rfl ?_
       refine W_move rfl rfl ?_
       refine W_known (t := 24) false rfl hb20 ?_
       refine W_guard_no rfl rfl rfl rfl rfl ?_
       refine W_guard_no rfl rfl rfl rfl rfl ?_
       refine W_guard_no rfl rfl rfl rfl rfl ?_
       refine W_guard_no rfl rfl rfl rfl rfl ?_
       refine W_guard_no rfl rfl rfl rfl rfl ?_
       refine W_pick_f rfl rfl rfl ?_
       refine W_nil ?_
       exact N_join _ ⟨rfl, F9, (Frz.le.refl _), hS9⟩ ⟨rfl, rfl, rfl, rfl, rfl, (look_bool rfl (by first | rfl | (rw [hb20]; first | done | rfl) | simp [hb20])), trivial⟩
     rintro E w19 ⟨rfl, F19, le19, hS19⟩
     refine N_code ?_
     refine C_cond rfl (fun hc24 => ?_) (fun hc24 => ?_)
     ·
      rw [if_t hc24] at H
      refine C_seq ?_
      refine C_region ?_
      refine W_assign rfl rfl ?_
      refine W_nil ?_
      refine N_code ?_
      obtain rfl := Option.some.inj H
      refine C_ret rfl rfl ?_
      exact ⟨F19, rfl, hS19⟩
     ·
      rw [if_f hc24] at H
      refine C_skip ?_
      refine N_block ?_
      refine N_code ?_
      refine C_region ?_
      refine W_add rfl rfl rfl rfl ?_
      refine W_move rfl rfl ?_
      refine W_nil ?_
      exact N_againM (wr (i10 + 1)) _ H ⟨F19, rfl, (le9.trans le19), hS19⟩ ⟨rfl, rfl, rfl, rfl, rfl, trivial⟩
    ·
     rw [if_f hc12] at H
     refine C_exit _ rfl ?_
     exact N_join _ ⟨H, ⟨F9, rfl, le9, hS9⟩⟩ ⟨rfl, trivial⟩
  ·
   rintro E w4 ⟨H, F4, rfl, le4, hS4⟩
   dsimp only [mounts_wrong.k1] at H
   refine C_seq ?_
   refine C_block ?_
   refine C_seq ?_
   refine C_region ?_
   refine W_move rfl rfl ?_
   refine W_lenv rfl Go.Proofs.Try.underlying23 rfl h1.ln ?_
   refine W_gtr rfl rfl rfl ?_
   refine W_assign rfl rfl ?_
   refine W_nil ?_
   refine N_code ?_
   refine C_cond rfl (fun hc5 => ?_) (fun hc5 => ?_)
   ·
    rw [if_t hc5] at H
    refine C_seq ?_
    refine C_region ?_
    refine W_assign rfl rfl ?_
    refine W_nil ?_
    refine N_code ?_
    obtain rfl := Option.some.inj H
    refine C_ret rfl rfl ?_
    exact ⟨F4, rfl, hS4⟩
   ·
    rw [if_f hc5] at H
    refine C_seq ?_
    obtain ⟨r6, hr6, H⟩ := bd_some H
    refine C_region ?_
    refine W_move rfl rfl ?_
    refine W_call rfl Ty.named51 rfl (slices_ContainsFunc_api_Read_api_Read_mounts_wrong_1_ok hS4.agree (h1.mono (le1.trans le4)) hr6) ?_
    rintro v7 w7 ⟨Fr6, rfl, hT7⟩
    have hS7 := hS4.lent hT7
    refine W_assign rfl rfl ?_
    refine W_nil ?_
    refine N_code ?_
    refine C_cond rfl (fun hc8 => ?_) (fun hc8 => ?_)
    ·
     rw [if_t hc8] at H
     refine C_seq ?_
     refine C_region ?_
     refine W_assign rfl rfl ?_
     refine W_nil ?_
     refine N_code ?_
     obtain rfl := Option.some.inj H
     refine C_ret rfl rfl ?_
     exact ⟨F4, rfl, hS7⟩
    ·
     rw [if_f hc8] at H
     refine C_skip ?_
     refine N_block ?_
     refine N_code ?_
     refine C_seq ?_
     refine C_region ?_
     refine W_assign rfl rfl ?_
     refine W_nil ?_
     refine N_code ?_
     obtain rfl := Option.some.inj H
     refine C_ret rfl rfl ?_
     exact ⟨F4, rfl, hS7⟩

def slices_Clone_int_int (x0 : List Int) : Option (List Int) :=
  bd (app (α := Int) ([] : List Int) x0) fun l6 =>
  some l6

theorem slices_Clone_int_int_ok {F : Frz} {w : World} {x0 : List Int} {r : (List Int)} {v0 : Value} (hA : Agree F w.heap) (h0 : SlF tI F v0 x0) (H : slices_Clone_int_int x0 = some r) : Ret Try.prog 39 #[v0] w fun v w' => ∃ (F' : Frz) (q0 : Value), v = q0 ∧ St [] w F F' [.row tI 3 q0 (r)] w' := by
 refine Ret_of (args := [v0]) Go.Proofs.Try.func39 rfl rfl ?_
 change C _ _ _ _ [(0, v0)] _
 have hS := St.entry hA
 dsimp only [slices_Clone_int_int] at H
 refine C_seq ?_
 refine C_region ?_
 refine W_assign rfl rfl ?_
 refine W_nil ?_
 refine N_code ?_
 refine C_seq ?_
 refine C_seq ?_
 refine C_region ?_
 refine W_move rfl rfl ?_
 refine W_nilq rfl Go.Proofs.Try.underlying22 rfl h0.ln ?_
 intro b1 hb1
 refine W_nil ?_
 refine N_code ?_
 refine C_cond rfl (fun hc2 => ?_) (fun hc2 => ?_)
 ·
  have hx2 : x0 = [] := List.eq_nil_of_length_eq_zero (hb1 hc2)
  have H : (some [] : Option (List Int)) = some r := by first | (rw [hx2] at H; exact H) | (subst hx2; exact H)
  refine C_seq ?_
  refine C_region ?_
  refine W_assign rfl rfl ?_
  refine W_nil ?_
  refine N_code ?_
  have hS4 := hS.nilRow tI 3
  obtain rfl := Option.some.inj H
  refine C_ret rfl rfl ?_
  exact ⟨F, (.slice none 0 0), rfl, hS4⟩
 ·
  refine C_skip ?_
  refine N_code ?_
  refine C_seq ?_
  obtain ⟨l6, hl6, H⟩ := bd_some H
  refine C_region ?_
  refine W_bs (t := tI) [] ([] : List Int) rfl Go.Proofs.Try.underlying22 Ty.cells3 rfl rfl Ty.zero3 rfl rfl trivial rfl rfl hS ?_
  intro u5 w5 hS5
  refine W_move rfl rfl ?_
  refine W_appM 0 rfl Go.Proofs.Try.underlying22 Ty.row3 rfl rfl rfl rfl rfl hS5 rfl (h0.src hS5.agree) hl6 ?_
  intro v7 w7 hS7
  refine W_assign rfl rfl ?_
  refine W_nil ?_
  refine N_code ?_
  obtain rfl := Option.some.inj H
  refine C_ret rfl rfl ?_
  exact ⟨F, v7, rfl, hS7⟩

def mounts_walk_read.k1 (x0 : MountsWalk) (x2 : Int) (m6 : Int → Option (List Read)) (l8 : List Move) : Option MountsWalk :=
  some (MountsWalk.mk x0.holds x0.asked x0.vols (mdel m6 x2) l8 x0.mounts)


def mounts_walk_read.l2 (x0 : MountsWalk) (x1 : Int) (x2 : Int) (l12 : List Read) (rec17 : (Int × (List Move)) → Option MountsWalk) : (Int × (List Move)) → Option MountsWalk
  | (i14, l15) =>
    if decide (i14 < (l12.length : Int)) then
      bd (ix l12 i14) fun x19 =>
      bd (app (α := Move) l15 [(Move.mk 2 x1 x2 x19.loc)]) fun l25 =>
      rec17 (wr (i14 + 1), l25)
    else
      mounts_walk_read.k1 x0 x2 x0.left l15

def mounts_walk_read (x0 : MountsWalk) (x1 : Int) : Option MountsWalk :=
  bd (ix x0.holds x1) fun x2 =>
  bd (some ((x0.left x2).getD [])) fun l12 =>
  loop (mounts_walk_read.l2 x0 x1 x2 l12) (0, x0.moves)

theorem mounts_walk_read_ok {F : Frz} {w : World} {X : List Nat} {x0 : MountsWalk} {x1 : Int} {r : MountsWalk} {gp0 : Nat} {v0_0 : Value} {v0_1 : Value} {v0_2 : Value} {gv0_3 : Nat} {bsv0_3 : List Nat} {v0_4 : Value} (hS : St X w F F [.box gp0 70 [v0_0, v0_1, v0_2, .map (some gv0_3), v0_4, .int .i64 x0.mounts], .row tI 3 v0_0 x0.holds, .row tI 3 v0_1 x0.asked, .row tI 3 v0_2 x0.vols, .deep (tMap (ktInt Go.Proofs.Try.underlying3) (tRow Read.t 39) noHole) bsv0_3 [.map (some gv0_3)] x0.left, .row Move.t 42 v0_4 x0.moves] w) (H : mounts_walk_read x0 x1 = some r) : Ret Try.prog 40 #[pl gp0 0, .int .i64 x1] w fun v w' => ∃ (F' : Frz) (bsz0_3 : List Nat) (z0_4 : Value), v = .tuple #[] ∧ St X w F F' [.box gp0 70 [v0_0, v0_1, v0_2, .map (some gv0_3), z0_4, .int .i64 r.mounts], .row tI 3 v0_0 r.holds, .row tI 3 v0_1 r.asked, .row tI 3 v0_2 r.vols, .deep (tMap (ktInt Go.Proofs.Try.underlying3) (tRow Read.t 39) noHole) bsz0_3 [.map (some gv0_3)] r.left, .row Move.t 42 z0_4 r.moves] w' := by
 refine Ret_of (args := [pl gp0 0, .int .i64 x1]) Go.Proofs.Try.func40 rfl rfl ?_
 change C _ _ _ _ [(0, pl gp0 0), (1, .int .i64 x1)] _
 dsimp only [mounts_walk_read] at H
 refine C_seq ?_
 obtain ⟨x2, hx2, H⟩ := bd_some H
 refine C_region ?_
 refine W_move rfl rfl ?_
 refine W_nil_pl rfl rfl ?_
 refine W_field_pl 0 rfl Ty.field70_0 rfl ?_
 refine W_bld1 0 rfl Ty.cell22 rfl hS rfl rfl ?_
 refine W_move rfl rfl ?_
 obtain ⟨hp4, hy4⟩ := ix_some hx2
 obtain ⟨cs4, hr4, he4⟩ := hS.rowAt (k := 1) rfl hy4
 obtain rfl := hr4
 replace he4 : El _ _ 1 _ _ := he4
 refine W_ix rfl Go.Proofs.Try.underlying22 Ty.cells3 Ty.info3 rfl rfl he4 hp4 rfl ?_
 refine W_ld1 0 rfl Ty.cell3 rfl he4 (by omega) rfl ?_
 refine W_assign rfl rfl ?_
 refine W_nil ?_
 refine N_code ?_
 refine C_seq_join (fun E wq => ∃ m6 : Int → Option (List Read), ∃ l8 : List Move, mounts_walk_read.k1 x0 x2 m6 l8 = some r ∧ ∃ (F5 : Frz) (bs7 : List Nat) (u9 : Value), E = [(0, pl gp0 0), (4, .int .i64 x2)] ∧ F.le F5 ∧ St X w F F5 [.box gp0 70 [v0_0, v0_1, v0_2, .map (some gv0_3), u9, .int .i64 x0.mounts], .row tI 3 v0_0 x0.holds, .row tI 3 v0_1 x0.asked, .row tI 3 v0_2 x0.vols, .deep (tMap (ktInt Go.Proofs.Try.underlying3) (tRow Read.t 39) noHole) bs7 [.map (some gv0_3)] m6, .row Move.t 42 u9 l8] wq) ?_ ?_
 ·
  refine C_seq ?_
  obtain ⟨l12, hl12, H⟩ := bd_some H
  refine C_region ?_
  refine W_move rfl rfl ?_
  refine W_nil_pl rfl rfl ?_
  refine W_field_pl 3 rfl Ty.field70_3 rfl ?_
  refine W_bld1 0 rfl Ty.cell68 rfl hS rfl rfl ?_
  refine W_move rfl rfl ?_
  refine W_dig (a := x2)  4 rfl Go.Proofs.Try.underlying68 Go.Proofs.Try.zeroValue23  rfl rfl rfl trivial hS rfl ?_
  intro u11 bs11 hS11
  rw [Option.some.inj hl12] at hS11
  refine W_lenv rfl Go.Proofs.Try.underlying23 rfl (hS11.rowLn (k := 0) rfl) ?_
  refine W_move rfl rfl ?_
  refine W_nil ?_
  refine N_code ?_
  refine C_block ?_
  refine C_loopM (fun (s : Int × (List Move)) E wq => ∃ (F13 : Frz) (u16 : Value), E = [(0, pl gp0 0), (1, .int .i64 x1), (4, .int .i64 x2), (19, u11), (20, .int .i64 (l12.length : Int)), (21, .int .i64 s.1)] ∧ F.le F13 ∧ St X w F F13 [.row Read.t 39 u11 l12, .box gp0 70 [v0_0, v0_1, v0_2, .map (some gv0_3), u16, .int .i64 x0.mounts], .row tI 3 v0_0 x0.holds, .row tI 3 v0_1 x0.asked, .row tI 3 v0_2 x0.vols, .deep (tMap (ktInt Go.Proofs.Try.underlying3) (tRow Read.t 39) (holeAt x2 u11)) bs11 [.map (some gv0_3)] x0.left, .row Move.t 42 u16 s.2] wq) H ?_ ?_
  ·
   exact ⟨_, ⟨F, v0_4, rfl, (Frz.le.refl _), hS11⟩, ⟨rfl, rfl, rfl, rfl, rfl, rfl, trivial⟩⟩
  ·
   rintro rec17 ⟨i14, l15⟩ E w13 hI H
   try dsimp only at hI
   obtain ⟨F13, u16, rfl, le13, hS13⟩ := hI
   dsimp only [mounts_walk_read.l2] at H
   refine C_seq ?_
   refine C_region ?_
   refine W_lss rfl rfl rfl ?_
   refine W_nil ?_
   refine N_code ?_
   refine C_seq ?_
   refine C_cond rfl (fun hc18 => ?_) (fun hc18 => ?_)
   ·
    rw [if_t hc18] at H
    refine C_skip ?_
    refine N_code ?_
    refine C_seq ?_
    refine C_block ?_
    refine C_seq ?_
    obtain ⟨x19, hx19, H⟩ := bd_some H
    refine C_region ?_
    obtain ⟨hp22, hy22⟩ := ix_some hx19
    obtain ⟨cs22, hr22, he22⟩ := hS13.rowAt (k := 0) rfl hy22
    obtain rfl := hr22
    replace he22 : El _ _ 5 _ _ := he22
    refine W_ix rfl Go.Proofs.Try.underlying23 Ty.cells39 Ty.info39 rfl rfl he22 hp22 rfl ?_
    refine W_ldg 0 ((Read.cells x19)) rfl Ty.agg39 Ty.size39 rfl he22 (by omega) (fun q u h => sub_at (post := []) rfl h) ?_
    refine W_alc (cs := [.int .i64 0, .int .i64 0, .int .i64 0, .int .i64 0, .int .i64 0]) rfl Ty.zero39 rfl hS13 ?_
    intro g21 w21 hS21
    refine W_bst (c := [.int .i64 x19.want, .int .i64 x19.loc.vol, .int .i64 x19.loc.file, .int .i64 x19.loc.off, .int .i64 x19.loc.len]) 0 ([.int .i64 x19.want, .int .i64 x19.loc.vol, .int .i64 x19.loc.file, .int .i64 x19.loc.off, .int .i64 x19.loc.len]) rfl rfl hS21 rfl rfl Ty.size39 (fun y hy => Read.t.one (F := F13) (x := x19) rfl y hy) (Nat.le_of_ble_eq_true rfl) rfl ?_
    intro w23 hS23
    refine W_nil ?_
    refine N_code ?_
    obtain ⟨l25, hl25, H⟩ := bd_some H
    apply C_drawJ (fun D vs wz => ∀ (b4 b10 b11 : Bool), D 4 = b4 → D 10 = b10 → D 11 = b11 → match b4, b10, b11 with | false, false, false => ∃ FJ : Frz, F13.le FJ ∧ St X w F FJ [.box g21 39 [.int .i64 x19.want, .int .i64 x19.loc.vol, .int .i64 x19.loc.file, .int .i64 x19.loc.off, .int .i64 x19.loc.len], .row Read.t 39 u11 l12, .box gp0 70 [v0_0, v0_1, v0_2, .map (some gv0_3), u16, .int .i64 x0.mounts], .row tI 3 v0_0 x0.holds, .row tI 3 v0_1 x0.asked, .row tI 3 v0_2 x0.vols, .deep (tMap (ktInt Go.Proofs.Try.underlying3) (tRow Read.t 39) (holeAt x2 u11)) bs11 [.map (some gv0_3)] x0.left, .row Move.t 42 u16 l15] wz | true, false, false => ∃ FJ : Frz, vs 4 = u16 ∧ F13.le FJ ∧ St X w F FJ [.box g21 39 [.int .i64 x19.want, .int .i64 x19.loc.vol, .int .i64 x19.loc.file, .int .i64 x19.loc.off, .int .i64 x19.loc.len], .row Read.t 39 u11 l12, .box gp0 70 [v0_0, v0_1, v0_2, .map (some gv0_3), u16, .int .i64 x0.mounts], .row tI 3 v0_0 x0.holds, .row tI 3 v0_1 x0.asked, .row tI 3 v0_2 x0.vols, .deep (tMap (ktInt Go.Proofs.Try.underlying3) (tRow Read.t 39) (holeAt x2 u11)) bs11 [.map (some gv0_3)] x0.left, .row Move.t 42 u16 l15] wz | false, true, false => ∃ FJ : Frz, ∃ u24 : Value, vs 10 = u24 ∧ F13.le FJ ∧ St X w F FJ [.row Move.t 42 u24 [(Move.mk 2 x1 x2 x19.loc)], .box g21 39 [.int .i64 x19.want, .int .i64 x19.loc.vol, .int .i64 x19.loc.file, .int .i64 x19.loc.off, .int .i64 x19.loc.len], .row Read.t 39 u11 l12, .box gp0 70 [v0_0, v0_1, v0_2, .map (some gv0_3), u16, .int .i64 x0.mounts], .row tI 3 v0_0 x0.holds, .row tI 3 v0_1 x0.asked, .row tI 3 v0_2 x0.vols, .deep (tMap (ktInt Go.Proofs.Try.underlying3) (tRow Read.t 39) (holeAt x2 u11)) bs11 [.map (some gv0_3)] x0.left, .row Move.t 42 u16 l15] wz | true, true, false => ∃ FJ : Frz, ∃ u24 : Value, vs 4 = u16 ∧ vs 10 = u24 ∧ F13.le FJ ∧ St X w F FJ [.row Move.t 42 u24 [(Move.mk 2 x1 x2 x19.loc)], .box g21 39 [.int .i64 x19.want, .int .i64 x19.loc.vol, .int .i64 x19.loc.file, .int .i64 x19.loc.off, .int .i64 x19.loc.len], .row Read.t 39 u11 l12, .box gp0 70 [v0_0, v0_1, v0_2, .map (some gv0_3), u16, .int .i64 x0.mounts], .row tI 3 v0_0 x0.holds, .row tI 3 v0_1 x0.asked, .row tI 3 v0_2 x0.vols, .deep (tMap (ktInt Go.Proofs.Try.underlying3) (tRow Read.t 39) (holeAt x2 u11)) bs11 [.map (some gv0_3)] x0.left, .row Move.t 42 u16 l15] wz | true, true, true => ∃ FJ : Frz, ∃ u24 : Value, ∃ v26 : Value, vs 4 = u16 ∧ vs 10 = u24 ∧ vs 11 = v26 ∧ F13.le FJ ∧ St X w F FJ [.row Move.t 42 u24 [(Move.mk 2 x1 x2 x19.loc)], .box g21 39 [.int .i64 x19.want, .int .i64 x19.loc.vol, .int .i64 x19.loc.file, .int .i64 x19.loc.off, .int .i64 x19.loc.len], .row Read.t 39 u11 l12, .box gp0 70 [v0_0, v0_1, v0_2, .map (some gv0_3), u16, .int .i64 x0.mounts], .row tI 3 v0_0 x0.holds, .row tI 3 v0_1 x0.asked, .row tI 3 v0_2 x0.vols, .deep (tMap (ktInt Go.Proofs.Try.underlying3) (tRow Read.t 39) (holeAt x2 u11)) bs11 [.map (some gv0_3)] x0.left, .row Move.t 42 v26 l25] wz | _, _, _ => False) 12 [[], [], [1], [2], [3], [], [], [], [7], [5, 6, 8], [9], [4, 10]] [some (pl gp0 0), some (pl gp0 0), some (pl gp0 0), some (pl gp0 (0 + 4)), none, some (.int .i64 x1), some (.int .i64 x2), some (pl g21 (0 + 1)), some (.agg (Loc.cells x19.loc).toArray), some (.agg (Move.cells (Move.mk 2 x1 x2 x19.loc)).toArray), none, none] Ty.mixed rfl (by kernel_rfl) (by kernel_rfl) rfl
    ·
     intro vq27 b4 b10 b11 h4 h10 h11
     obtain rfl : b4 = false := h4.symm
     obtain rfl : b10 = false := h10.symm
     obtain rfl : b11 = false := h11.symm
     exact ⟨F13, (Frz.le.refl _), (hS23.below (below_drew _))⟩
    ·
     refine ⟨?_, ?_, ?_, ?_, ?_, ?_, ?_, ?_, ?_, ?_, ?_, ?_, trivial⟩
     ·
      intro w28 vq28 D28 hD28 hd28 hJ28
      refine W_move rfl rfl ?_
      refine W_nil ?_
      exact N_stepJ rfl (fun u hu => Option.some.inj hu) hJ28
     ·
      intro w29 vq29 D29 hD29 hd29 hJ29
      refine W_move rfl rfl ?_
      refine W_nil ?_
      exact N_stepJ rfl (fun u hu => Option.some.inj hu) hJ29
     ·
      intro w30 vq30 D30 hD30 hd30 hJ30
      rcases Bool.eq_false_or_eq_true (D30 4) with hb31 | hb31
      ·
       rcases Bool.eq_false_or_eq_true (D30 10) with hb32 | hb32
       ·
        rcases Bool.eq_false_or_eq_true (D30 11) with hb33 | hb33
        ·
         obtain ⟨FJ30, u24, v26, he30_4, he30_10, he30_11, leJ30, hSJ30⟩ := (hJ30 true true true hb31 hb32 hb33)
         refine W_nil_pl rfl rfl ?_
         refine W_nil ?_
         exact N_stepJ rfl (fun u hu => Option.some.inj hu) (fun b4 b10 b11 h4 h10 h11 => by obtain rfl : b4 = true := h4.symm.trans hb31; obtain rfl : b10 = true := h10.symm.trans hb32; obtain rfl : b11 = true := h11.symm.trans hb33; exact ⟨FJ30, u24, v26, he30_4, he30_10, he30_11, leJ30, hSJ30⟩)
        ·
         obtain ⟨FJ30, u24, he30_4, he30_10, leJ30, hSJ30⟩ := (hJ30 true true false hb31 hb32 hb33)
         refine W_nil_pl rfl rfl ?_
         refine W_nil ?_
         exact N_stepJ rfl (fun u hu => Option.some.inj hu) (fun b4 b10 b11 h4 h10 h11 => by obtain rfl : b4 = true := h4.symm.trans hb31; obtain rfl : b10 = true := h10.symm.trans hb32; obtain rfl : b11 = false := h11.symm.trans hb33; exact ⟨FJ30, u24, he30_4, he30_10, leJ30, hSJ30⟩)
       ·
        rcases Bool.eq_false_or_eq_true (D30 11) with hb34 | hb34
        ·
         exact False.elim (hJ30 true false true hb31 hb32 hb34)
        ·
         obtain ⟨FJ30, he30_4, leJ30, hSJ30⟩ := (hJ30 true false false hb31 hb32 hb34)
         refine W_nil_pl rfl rfl ?_
         refine W_nil ?_
         exact N_stepJ rfl (fun u hu => Option.some.inj hu) (fun b4 b10 b11 h4 h10 h11 => by obtain rfl : b4 = true := h4.symm.trans hb31; obtain rfl : b10 = false := h10.symm.trans hb32; obtain rfl : b11 = false := h11.symm.trans hb34; exact ⟨FJ30, he30_4, leJ30, hSJ30⟩)
      ·
       rcases Bool.eq_false_or_eq_true (D30 10) with hb35 | hb35
       ·
        rcases Bool.eq_false_or_eq_true (D30 11) with hb36 | hb36
        ·
         exact False.elim (hJ30 false true true hb31 hb35 hb36)
        ·
         obtain ⟨FJ30, u24, he30_10, leJ30, hSJ30⟩ := (hJ30 false true false hb31 hb35 hb36)
         refine W_nil_pl rfl rfl ?_
         refine W_nil ?_
         exact N_stepJ rfl (fun u hu => Option.some.inj hu) (fun b4 b10 b11 h4 h10 h11 => by obtain rfl : b4 = false := h4.symm.trans hb31; obtain rfl : b10 = true := h10.symm.trans hb35; obtain rfl : b11 = false := h11.symm.trans hb36; exact ⟨FJ30, u24, he30_10, leJ30, hSJ30⟩)
       ·
        rcases Bool.eq_false_or_eq_true (D30 11) with hb37 | hb37
        ·
         exact False.elim (hJ30 false false true hb31 hb35 hb37)
        ·
         obtain ⟨FJ30, leJ30, hSJ30⟩ := (hJ30 false false false hb31 hb35 hb37)
         refine W_nil_pl rfl rfl ?_
         refine W_nil ?_
         exact N_stepJ rfl (fun u hu => Option.some.inj hu) (fun b4 b10 b11 h4 h10 h11 => by obtain rfl : b4 = false := h4.symm.trans hb31; obtain rfl : b10 = false := h10.symm.trans hb35; obtain rfl : b11 = false := h11.symm.trans hb37; exact ⟨FJ30, leJ30, hSJ30⟩)
     ·
      intro w38 vq38 D38 hD38 hd38 hJ38
      rcases Bool.eq_false_or_eq_true (D38 4) with hb39 | hb39
      ·
       rcases Bool.eq_false_or_eq_true (D38 10) with hb40 | hb40
       ·
        rcases Bool.eq_false_or_eq_true (D38 11) with hb41 | hb41
        ·
         obtain ⟨FJ38, u24, v26, he38_4, he38_10, he38_11, leJ38, hSJ38⟩ := (hJ38 true true true hb39 hb40 hb41)
         refine W_field_pl 4 rfl Ty.field70_4 rfl ?_
         refine W_nil ?_
         exact N_stepJ rfl (fun u hu => Option.some.inj hu) (fun b4 b10 b11 h4 h10 h11 => by obtain rfl : b4 = true := h4.symm.trans hb39; obtain rfl : b10 = true := h10.symm.trans hb40; obtain rfl : b11 = true := h11.symm.trans hb41; exact ⟨FJ38, u24, v26, he38_4, he38_10, he38_11, leJ38, hSJ38⟩)
        ·
         obtain ⟨FJ38, u24, he38_4, he38_10, leJ38, hSJ38⟩ := (hJ38 true true false hb39 hb40 hb41)
         refine W_field_pl 4 rfl Ty.field70_4 rfl ?_
         refine W_nil ?_
         exact N_stepJ rfl (fun u hu => Option.some.inj hu) (fun b4 b10 b11 h4 h10 h11 => by obtain rfl : b4 = true := h4.symm.trans hb39; obtain rfl : b10 = true := h10.symm.trans hb40; obtain rfl : b11 = false := h11.symm.trans hb41; exact ⟨FJ38, u24, he38_4, he38_10, leJ38, hSJ38⟩)
       ·
        rcases Bool.eq_false_or_eq_true (D38 11) with hb42 | hb42
        ·
         exact False.elim (hJ38 true false true hb39 hb40 hb42)
        ·
         obtain ⟨FJ38, he38_4, leJ38, hSJ38⟩ := (hJ38 true false false hb39 hb40 hb42)
         refine W_field_pl 4 rfl Ty.field70_4 rfl ?_
         refine W_nil ?_
         exact N_stepJ rfl (fun u hu => Option.some.inj hu) (fun b4 b10 b11 h4 h10 h11 => by obtain rfl : b4 = true := h4.symm.trans hb39; obtain rfl : b10 = false := h10.symm.trans hb40; obtain rfl : b11 = false := h11.symm.trans hb42; exact ⟨FJ38, he38_4, leJ38, hSJ38⟩)
      ·
       rcases Bool.eq_false_or_eq_true (D38 10) with hb43 | hb43
       ·
        rcases Bool.eq_false_or_eq_true (D38 11) with hb44 | hb44
        ·
         exact False.elim (hJ38 false true true hb39 hb43 hb44)
        ·
         obtain ⟨FJ38, u24, he38_10, leJ38, hSJ38⟩ := (hJ38 false true false hb39 hb43 hb44)
         refine W_field_pl 4 rfl Ty.field70_4 rfl ?_
         refine W_nil ?_
         exact N_stepJ rfl (fun u hu => Option.some.inj hu) (fun b4 b10 b11 h4 h10 h11 => by obtain rfl : b4 = false := h4.symm.trans hb39; obtain rfl : b10 = true := h10.symm.trans hb43; obtain rfl : b11 = false := h11.symm.trans hb44; exact ⟨FJ38, u24, he38_10, leJ38, hSJ38⟩)
       ·
        rcases Bool.eq_false_or_eq_true (D38 11) with hb45 | hb45
        ·
         exact False.elim (hJ38 false false true hb39 hb43 hb45)
        ·
         obtain ⟨FJ38, leJ38, hSJ38⟩ := (hJ38 false false false hb39 hb43 hb45)
         refine W_field_pl 4 rfl Ty.field70_4 rfl ?_
         refine W_nil ?_
         exact N_stepJ rfl (fun u hu => Option.some.inj hu) (fun b4 b10 b11 h4 h10 h11 => by obtain rfl : b4 = false := h4.symm.trans hb39; obtain rfl : b10 = false := h10.symm.trans hb43; obtain rfl : b11 = false := h11.symm.trans hb45; exact ⟨FJ38, leJ38, hSJ38⟩)
     ·
      intro w46 vq46 D46 hD46 hd46 hJ46
      rcases Bool.eq_false_or_eq_true (D46 10) with hb47 | hb47
      ·
       rcases Bool.eq_false_or_eq_true (D46 11) with hb48 | hb48
       ·
        exact False.elim (hJ46 false true true hD46 hb47 hb48)
       ·
        obtain ⟨FJ46, u24, he46_10, leJ46, hSJ46⟩ := (hJ46 false true false hD46 hb47 hb48)
        refine W_bld1 3 rfl Ty.cell25 rfl hSJ46 rfl rfl ?_
        refine W_nil ?_
        exact N_stepJ rfl (fun u (hu : (none : Option Value) = some u) => by cases hu) (fun b4 b10 b11 h4 h10 h11 => by obtain rfl : b4 = true := h4.symm; obtain rfl : b10 = true := h10.symm.trans hb47; obtain rfl : b11 = false := h11.symm.trans hb48; exact ⟨FJ46, u24, rfl, he46_10, leJ46, hSJ46⟩)
      ·
       rcases Bool.eq_false_or_eq_true (D46 11) with hb49 | hb49
       ·
        exact False.elim (hJ46 false false true hD46 hb47 hb49)
       ·
        obtain ⟨FJ46, leJ46, hSJ46⟩ := (hJ46 false false false hD46 hb47 hb49)
        refine W_bld1 2 rfl Ty.cell25 rfl hSJ46 rfl rfl ?_
        refine W_nil ?_
        exact N_stepJ rfl (fun u (hu : (none : Option Value) = some u) => by cases hu) (fun b4 b10 b11 h4 h10 h11 => by obtain rfl : b4 = true := h4.symm; obtain rfl : b10 = false := h10.symm.trans hb47; obtain rfl : b11 = false := h11.symm.trans hb49; exact ⟨FJ46, rfl, leJ46, hSJ46⟩)
     ·
      intro w50 vq50 D50 hD50 hd50 hJ50
      refine W_move rfl rfl ?_
      refine W_nil ?_
      exact N_stepJ rfl (fun u hu => Option.some.inj hu) hJ50
     ·
      intro w51 vq51 D51 hD51 hd51 hJ51
      refine W_move rfl rfl ?_
      refine W_nil ?_
      exact N_stepJ rfl (fun u hu => Option.some.inj hu) hJ51
     ·
      intro w52 vq52 D52 hD52 hd52 hJ52
      rcases Bool.eq_false_or_eq_true (D52 4) with hb53 | hb53
      ·
       rcases Bool.eq_false_or_eq_true (D52 10) with hb54 | hb54
       ·
        rcases Bool.eq_false_or_eq_true (D52 11) with hb55 | hb55
        ·
         obtain ⟨FJ52, u24, v26, he52_4, he52_10, he52_11, leJ52, hSJ52⟩ := (hJ52 true true true hb53 hb54 hb55)
         refine W_field_pl 1 rfl Ty.field39_1 rfl ?_
         refine W_nil ?_
         exact N_stepJ rfl (fun u hu => Option.some.inj hu) (fun b4 b10 b11 h4 h10 h11 => by obtain rfl : b4 = true := h4.symm.trans hb53; obtain rfl : b10 = true := h10.symm.trans hb54; obtain rfl : b11 = true := h11.symm.trans hb55; exact ⟨FJ52, u24, v26, he52_4, he52_10, he52_11, leJ52, hSJ52⟩)
        ·
         obtain ⟨FJ52, u24, he52_4, he52_10, leJ52, hSJ52⟩ := (hJ52 true true false hb53 hb54 hb55)
         refine W_field_pl 1 rfl Ty.field39_1 rfl ?_
         refine W_nil ?_
         exact N_stepJ rfl (fun u hu => Option.some.inj hu) (fun b4 b10 b11 h4 h10 h11 => by obtain rfl : b4 = true := h4.symm.trans hb53; obtain rfl : b10 = true := h10.symm.trans hb54; obtain rfl : b11 = false := h11.symm.trans hb55; exact ⟨FJ52, u24, he52_4, he52_10, leJ52, hSJ52⟩)
       ·
        rcases Bool.eq_false_or_eq_true (D52 11) with hb56 | hb56
        ·
         exact False.elim (hJ52 true false true hb53 hb54 hb56)
        ·
         obtain ⟨FJ52, he52_4, leJ52, hSJ52⟩ := (hJ52 true false false hb53 hb54 hb56)
         refine W_field_pl 1 rfl Ty.field39_1 rfl ?_
         refine W_nil ?_
         exact N_stepJ rfl (fun u hu => Option.some.inj hu) (fun b4 b10 b11 h4 h10 h11 => by obtain rfl : b4 = true := h4.symm.trans hb53; obtain rfl : b10 = false := h10.symm.trans hb54; obtain rfl : b11 = false := h11.symm.trans hb56; exact ⟨FJ52, he52_4, leJ52, hSJ52⟩)
      ·
       rcases Bool.eq_false_or_eq_true (D52 10) with hb57 | hb57
       ·
        rcases Bool.eq_false_or_eq_true (D52 11) with hb58 | hb58
        ·
         exact False.elim (hJ52 false true true hb53 hb57 hb58)
        ·
         obtain ⟨FJ52, u24, he52_10, leJ52, hSJ52⟩ := (hJ52 false true false hb53 hb57 hb58)
         refine W_field_pl 1 rfl Ty.field39_1 rfl ?_
         refine W_nil ?_
         exact N_stepJ rfl (fun u hu => Option.some.inj hu) (fun b4 b10 b11 h4 h10 h11 => by obtain rfl : b4 = false := h4.symm.trans hb53; obtain rfl : b10 = true := h10.symm.trans hb57; obtain rfl : b11 = false := h11.symm.trans hb58; exact ⟨FJ52, u24, he52_10, leJ52, hSJ52⟩)
       ·
        rcases Bool.eq_false_or_eq_true (D52 11) with hb59 | hb59
        ·
         exact False.elim (hJ52 false false true hb53 hb57 hb59)
        ·
         obtain ⟨FJ52, leJ52, hSJ52⟩ := (hJ52 false false false hb53 hb57 hb59)
         refine W_field_pl 1 rfl Ty.field39_1 rfl ?_
         refine W_nil ?_
         exact N_stepJ rfl (fun u hu => Option.some.inj hu) (fun b4 b10 b11 h4 h10 h11 => by obtain rfl : b4 = false := h4.symm.trans hb53; obtain rfl : b10 = false := h10.symm.trans hb57; obtain rfl : b11 = false := h11.symm.trans hb59; exact ⟨FJ52, leJ52, hSJ52⟩)
     ·
      intro w60 vq60 D60 hD60 hd60 hJ60
      rcases Bool.eq_false_or_eq_true (D60 4) with hb61 | hb61
      ·
       rcases Bool.eq_false_or_eq_true (D60 10) with hb62 | hb62
       ·
        rcases Bool.eq_false_or_eq_true (D60 11) with hb63 | hb63
        ·
         obtain ⟨FJ60, u24, v26, he60_4, he60_10, he60_11, leJ60, hSJ60⟩ := (hJ60 true true true hb61 hb62 hb63)
         refine W_bldg 1 ((Loc.cells x19.loc)) rfl Ty.agg37 Ty.size37 rfl hSJ60 rfl (fun q u h => sub_at (post := []) rfl h) ?_
         refine W_nil ?_
         exact N_stepJ rfl (fun u hu => Option.some.inj hu) (fun b4 b10 b11 h4 h10 h11 => by obtain rfl : b4 = true := h4.symm.trans hb61; obtain rfl : b10 = true := h10.symm.trans hb62; obtain rfl : b11 = true := h11.symm.trans hb63; exact ⟨FJ60, u24, v26, he60_4, he60_10, he60_11, leJ60, hSJ60⟩)
        ·
         obtain ⟨FJ60, u24, he60_4, he60_10, leJ60, hSJ60⟩ := (hJ60 true true false hb61 hb62 hb63)
         refine W_bldg 1 ((Loc.cells x19.loc)) rfl Ty.agg37 Ty.size37 rfl hSJ60 rfl (fun q u h => sub_at (post := []) rfl h) ?_
         refine W_nil ?_
         exact N_stepJ rfl (fun u hu => Option.some.inj hu) (fun b4 b10 b11 h4 h10 h11 => by obtain rfl : b4 = true := h4.symm.trans hb61; obtain rfl : b10 = true := h10.symm.trans hb62; obtain rfl : b11 = false := h11.symm.trans hb63; exact ⟨FJ60, u24, he60_4, he60_10, leJ60, hSJ60⟩)
       ·
        rcases Bool.eq_false_or_eq_true (D60 11) with hb64 | hb64
        ·
         exact False.elim (hJ60 true false true hb61 hb62 hb64)
        ·
         obtain ⟨FJ60, he60_4, leJ60, hSJ60⟩ := (hJ60 true false false hb61 hb62 hb64)
         refine W_bldg 0 ((Loc.cells x19.loc)) rfl Ty.agg37 Ty.size37 rfl hSJ60 rfl (fun q u h => sub_at (post := []) rfl h) ?_
         refine W_nil ?_
         exact N_stepJ rfl (fun u hu => Option.some.inj hu) (fun b4 b10 b11 h4 h10 h11 => by obtain rfl : b4 = true := h4.symm.trans hb61; obtain rfl : b10 = false := h10.symm.trans hb62; obtain rfl : b11 = false := h11.symm.trans hb64; exact ⟨FJ60, he60_4, leJ60, hSJ60⟩)
      ·
       rcases Bool.eq_false_or_eq_true (D60 10) with hb65 | hb65
       ·
        rcases Bool.eq_false_or_eq_true (D60 11) with hb66 | hb66
        ·
         exact False.elim (hJ60 false true true hb61 hb65 hb66)
        ·
         obtain ⟨FJ60, u24, he60_10, leJ60, hSJ60⟩ := (hJ60 false true false hb61 hb65 hb66)
         refine W_bldg 1 ((Loc.cells x19.loc)) rfl Ty.agg37 Ty.size37 rfl hSJ60 rfl (fun q u h => sub_at (post := []) rfl h) ?_
         refine W_nil ?_
         exact N_stepJ rfl (fun u hu => Option.some.inj hu) (fun b4 b10 b11 h4 h10 h11 => by obtain rfl : b4 = false := h4.symm.trans hb61; obtain rfl : b10 = true := h10.symm.trans hb65; obtain rfl : b11 = false := h11.symm.trans hb66; exact ⟨FJ60, u24, he60_10, leJ60, hSJ60⟩)
       ·
        rcases Bool.eq_false_or_eq_true (D60 11) with hb67 | hb67
        ·
         exact False.elim (hJ60 false false true hb61 hb65 hb67)
        ·
         obtain ⟨FJ60, leJ60, hSJ60⟩ := (hJ60 false false false hb61 hb65 hb67)
         refine W_bldg 0 ((Loc.cells x19.loc)) rfl Ty.agg37 Ty.size37 rfl hSJ60 rfl (fun q u h => sub_at (post := []) rfl h) ?_
         refine W_nil ?_
         exact N_stepJ rfl (fun u hu => Option.some.inj hu) (fun b4 b10 b11 h4 h10 h11 => by obtain rfl : b4 = false := h4.symm.trans hb61; obtain rfl : b10 = false := h10.symm.trans hb65; obtain rfl : b11 = false := h11.symm.trans hb67; exact ⟨FJ60, leJ60, hSJ60⟩)
     ·
      intro w68 vq68 D68 hD68 hd68 hJ68
      rcases Bool.eq_false_or_eq_true (D68 4) with hb69 | hb69
      ·
       rcases Bool.eq_false_or_eq_true (D68 10) with hb70 | hb70
       ·
        rcases Bool.eq_false_or_eq_true (D68 11) with hb71 | hb71
        ·
         obtain ⟨FJ68, u24, v26, he68_4, he68_10, he68_11, leJ68, hSJ68⟩ := (hJ68 true true true hb69 hb70 hb71)
         refine W_build (v := .agg (Move.cells (Move.mk 2 x1 x2 x19.loc)).toArray) rfl rfl (fun _ => by kernel_rfl) ?_
         refine W_nil ?_
         exact N_stepJ rfl (fun u hu => Option.some.inj hu) (fun b4 b10 b11 h4 h10 h11 => by obtain rfl : b4 = true := h4.symm.trans hb69; obtain rfl : b10 = true := h10.symm.trans hb70; obtain rfl : b11 = true := h11.symm.trans hb71; exact ⟨FJ68, u24, v26, he68_4, he68_10, he68_11, leJ68, hSJ68⟩)
        ·
         obtain ⟨FJ68, u24, he68_4, he68_10, leJ68, hSJ68⟩ := (hJ68 true true false hb69 hb70 hb71)
         refine W_build (v := .agg (Move.cells (Move.mk 2 x1 x2 x19.loc)).toArray) rfl rfl (fun _ => by kernel_rfl) ?_
         refine W_nil ?_
         exact N_stepJ rfl (fun u hu => Option.some.inj hu) (fun b4 b10 b11 h4 h10 h11 => by obtain rfl : b4 = true := h4.symm.trans hb69; obtain rfl : b10 = true := h10.symm.trans hb70; obtain rfl : b11 = false := h11.symm.trans hb71; exact ⟨FJ68, u24, he68_4, he68_10, leJ68, hSJ68⟩)
       ·
        rcases Bool.eq_false_or_eq_true (D68 11) with hb72 | hb72
        ·
         exact False.elim (hJ68 true false true hb69 hb70 hb72)
        ·
         obtain ⟨FJ68, he68_4, leJ68, hSJ68⟩ := (hJ68 true false false hb69 hb70 hb72)
         refine W_build (v := .agg (Move.cells (Move.mk 2 x1 x2 x19.loc)).toArray) rfl rfl (fun _ => by kernel_rfl) ?_
         refine W_nil ?_
         exact N_stepJ rfl (fun u hu => Option.some.inj hu) (fun b4 b10 b11 h4 h10 h11 => by obtain rfl : b4 = true := h4.symm.trans hb69; obtain rfl : b10 = false := h10.symm.trans hb70; obtain rfl : b11 = false := h11.symm.trans hb72; exact ⟨FJ68, he68_4, leJ68, hSJ68⟩)
      ·
       rcases Bool.eq_false_or_eq_true (D68 10) with hb73 | hb73
       ·
        rcases Bool.eq_false_or_eq_true (D68 11) with hb74 | hb74
        ·
         exact False.elim (hJ68 false true true hb69 hb73 hb74)
        ·
         obtain ⟨FJ68, u24, he68_10, leJ68, hSJ68⟩ := (hJ68 false true false hb69 hb73 hb74)
         refine W_build (v := .agg (Move.cells (Move.mk 2 x1 x2 x19.loc)).toArray) rfl rfl (fun _ => by kernel_rfl) ?_
         refine W_nil ?_
         exact N_stepJ rfl (fun u hu => Option.some.inj hu) (fun b4 b10 b11 h4 h10 h11 => by obtain rfl : b4 = false := h4.symm.trans hb69; obtain rfl : b10 = true := h10.symm.trans hb73; obtain rfl : b11 = false := h11.symm.trans hb74; exact ⟨FJ68, u24, he68_10, leJ68, hSJ68⟩)
       ·
        rcases Bool.eq_false_or_eq_true (D68 11) with hb75 | hb75
        ·
         exact False.elim (hJ68 false false true hb69 hb73 hb75)
        ·
         obtain ⟨FJ68, leJ68, hSJ68⟩ := (hJ68 false false false hb69 hb73 hb75)
         refine W_build (v := .agg (Move.cells (Move.mk 2 x1 x2 x19.loc)).toArray) rfl rfl (fun _ => by kernel_rfl) ?_
         refine W_nil ?_
         exact N_stepJ rfl (fun u hu => Option.some.inj hu) (fun b4 b10 b11 h4 h10 h11 => by obtain rfl : b4 = false := h4.symm.trans hb69; obtain rfl : b10 = false := h10.symm.trans hb73; obtain rfl : b11 = false := h11.symm.trans hb75; exact ⟨FJ68, leJ68, hSJ68⟩)
     ·
      intro w76 vq76 D76 hD76 hd76 hJ76
      rcases Bool.eq_false_or_eq_true (D76 4) with hb77 | hb77
      ·
       rcases Bool.eq_false_or_eq_true (D76 11) with hb78 | hb78
       ·
        exact False.elim (hJ76 true false true hb77 hD76 hb78)
       ·
        obtain ⟨FJ76, he76_4, leJ76, hSJ76⟩ := (hJ76 true false false hb77 hD76 hb78)
        refine W_bs (t := Move.t) [(Move.cells (Move.mk 2 x1 x2 x19.loc))] [(Move.mk 2 x1 x2 x19.loc)] rfl Go.Proofs.Try.underlying25 Ty.cells42 rfl rfl Ty.zero42 rfl rfl ⟨rfl, trivial⟩ rfl rfl hSJ76 ?_
        intro u24 w24 hS24
        refine W_nil ?_
        exact N_stepJ rfl (fun u (hu : (none : Option Value) = some u) => by cases hu) (fun b4 b10 b11 h4 h10 h11 => by obtain rfl : b4 = true := h4.symm.trans hb77; obtain rfl : b10 = true := h10.symm; obtain rfl : b11 = false := h11.symm.trans hb78; exact ⟨FJ76, u24, he76_4, rfl, leJ76, hS24⟩)
      ·
       rcases Bool.eq_false_or_eq_true (D76 11) with hb79 | hb79
       ·
        exact False.elim (hJ76 false false true hb77 hD76 hb79)
       ·
        obtain ⟨FJ76, leJ76, hSJ76⟩ := (hJ76 false false false hb77 hD76 hb79)
        refine W_bs (t := Move.t) [(Move.cells (Move.mk 2 x1 x2 x19.loc))] [(Move.mk 2 x1 x2 x19.loc)] rfl Go.Proofs.Try.underlying25 Ty.cells42 rfl rfl Ty.zero42 rfl rfl ⟨rfl, trivial⟩ rfl rfl hSJ76 ?_
        intro u24 w24 hS24
        refine W_nil ?_
        exact N_stepJ rfl (fun u (hu : (none : Option Value) = some u) => by cases hu) (fun b4 b10 b11 h4 h10 h11 => by obtain rfl : b4 = false := h4.symm.trans hb77; obtain rfl : b10 = true := h10.symm; obtain rfl : b11 = false := h11.symm.trans hb79; exact ⟨FJ76, u24, rfl, leJ76, hS24⟩)
     ·
      intro w80 vq80 D80 hD80 hd80 hJ80
      obtain ⟨FJ80, u24, he80_4, he80_10, leJ80, hSJ80⟩ := (hJ80 true true false (hd80 4 (by decide)) (hd80 10 (by decide)) hD80)
      refine W_eqv (t := 29) rfl he80_4 ?_
      refine W_eqv (t := 35) rfl he80_10 ?_
      refine W_appM 8 rfl Go.Proofs.Try.underlying25 Ty.row42 rfl rfl rfl rfl rfl hSJ80 rfl (hSJ80.rowSrc (j := 0) rfl) hl25 ?_
      intro v26 w26 hS26
      refine W_nil ?_
      exact N_stepJ rfl (fun u (hu : (none : Option Value) = some u) => by cases hu) (fun b4 b10 b11 h4 h10 h11 => by obtain rfl : b4 = true := h4.symm.trans (hd80 4 (by decide)); obtain rfl : b10 = true := h10.symm.trans (hd80 10 (by decide)); obtain rfl : b11 = true := h11.symm; exact ⟨FJ80, u24, v26, he80_4, he80_10, rfl, leJ80, hS26⟩)
    intro w81 vq81 D81 hA81 hJ81
    obtain ⟨FJ81, u24, v26, he81_4, he81_10, he81_11, leJ81, hSJ81⟩ := (hJ81 true true true (hA81 4 (by decide)) (hA81 10 (by decide)) (hA81 11 (by decide)))
    refine W_eqv (t := 29) rfl he81_4 ?_
    refine W_eqv (t := 35) rfl he81_10 ?_
    refine W_eqv (t := 36) rfl he81_11 ?_
    refine W_nil_pl rfl rfl ?_
    refine W_field_pl 4 rfl Ty.field70_4 rfl ?_
    refine W_bst (c := [v26]) 3 ([v0_0, v0_1, v0_2, .map (some gv0_3), v26, .int .i64 x0.mounts]) rfl rfl hSJ81 rfl (by rw [(hSJ81.rowLn (k := 8) rfl).cells]) Ty.size25 (by intro y hy; simp at hy; subst hy; exact (hSJ81.rowLn (k := 8) rfl).one) (Nat.le_of_ble_eq_true rfl) rfl ?_
    intro w82 hS82
    refine W_nil ?_
    refine N_block ?_
    refine N_code ?_
    refine C_region ?_
    refine W_add rfl rfl rfl rfl ?_
    refine W_move rfl rfl ?_
    refine W_nil ?_
    exact N_againM (wr (i14 + 1), l25) _ H ⟨FJ81, v26, rfl, (le13.trans leJ81), hS82.pick [2, 3, 4, 5, 6, 7, 8] (by decide)⟩ ⟨rfl, rfl, rfl, rfl, rfl, rfl, trivial⟩
   ·
    rw [if_f hc18] at H
    refine C_exit _ rfl ?_
    obtain ⟨bs83, hS83⟩ := hS13.undig 5 0 [1, 2, 3, 4, 5, 6] trivial rfl rfl (Option.some.inj hl12).symm (by decide) (by decide) (by decide)
    exact N_join _ ⟨x0.left, l15, H, ⟨F13, bs83, u16, rfl, le13, hS83⟩⟩ ⟨rfl, rfl, trivial⟩
 ·
  rintro E w5 ⟨m6, l8, H, F5, bs7, u9, rfl, le5, hS5⟩
  dsimp only [mounts_walk_read.k1] at H
  refine C_region ?_
  refine W_move rfl rfl ?_
  refine W_nil_pl rfl rfl ?_
  refine W_field_pl 3 rfl Ty.field70_3 rfl ?_
  refine W_bld1 0 rfl Ty.cell68 rfl hS5 rfl rfl ?_
  refine W_move rfl rfl ?_
  refine W_delN (a := x2) 4 Go.Proofs.Try.underlying68 Go.Proofs.Try.zeroValue23 rfl rfl rfl trivial hS5 rfl ?_
  intro bs10 w10 hS10
  refine W_nil ?_
  obtain rfl := Option.some.inj H
  refine N_done rfl rfl ?_
  exact ⟨F5, bs10, u9, rfl, hS10⟩

def mounts_walk_free.k1 (x0 : MountsWalk) (i2 : Int) : Option (Int × MountsWalk) :=
  some (i2, x0)


def mounts_walk_free.k3 (i5 : Int) (rec6 : (Int × Int) → Option (Int × MountsWalk)) (i9 : Int) : Option (Int × MountsWalk) :=
  rec6 (i9, wr (i5 + 1))


def mounts_walk_free.l2 (x0 : MountsWalk) (rec6 : (Int × Int) → Option (Int × MountsWalk)) : (Int × Int) → Option (Int × MountsWalk)
  | (i4, i5) =>
    if decide (i5 < (x0.holds.length : Int)) then
      bd (ix x0.holds i5) fun x10 =>
      if decide (x10 < 0) then
        some (i5, x0)
      else
        bd (ix x0.asked i5) fun x14 =>
        bd (ix x0.asked i4) fun x16 =>
        if decide (x14 < x16) then
          mounts_walk_free.k3 i5 rec6 i5
        else
          mounts_walk_free.k3 i5 rec6 i4
    else
      mounts_walk_free.k1 x0 i4

def mounts_walk_free (x0 : MountsWalk) : Option (Int × MountsWalk) :=
  loop (mounts_walk_free.l2 x0) (0, 0)

theorem mounts_walk_free_ok {F : Frz} {w : World} {X : List Nat} {x0 : MountsWalk} {r : Int × MountsWalk} {gp0 : Nat} {v0_0 : Value} {v0_1 : Value} {v0_2 : Value} {gv0_3 : Nat} {bsv0_3 : List Nat} {v0_4 : Value} (hS : St X w F F [.box gp0 70 [v0_0, v0_1, v0_2, .map (some gv0_3), v0_4, .int .i64 x0.mounts], .row tI 3 v0_0 x0.holds, .row tI 3 v0_1 x0.asked, .row tI 3 v0_2 x0.vols, .deep (tMap (ktInt Go.Proofs.Try.underlying3) (tRow Read.t 39) noHole) bsv0_3 [.map (some gv0_3)] x0.left, .row Move.t 42 v0_4 x0.moves] w) (H : mounts_walk_free x0 = some r) : Ret Try.prog 41 #[pl gp0 0] w fun v w' => ∃ (F' : Frz) (bsz0_3 : List Nat), v = .int .i64 r.1 ∧ St X w F F' [.box gp0 70 [v0_0, v0_1, v0_2, .map (some gv0_3), v0_4, .int .i64 r.2.mounts], .row tI 3 v0_0 r.2.holds, .row tI 3 v0_1 r.2.asked, .row tI 3 v0_2 r.2.vols, .deep (tMap (ktInt Go.Proofs.Try.underlying3) (tRow Read.t 39) noHole) bsz0_3 [.map (some gv0_3)] r.2.left, .row Move.t 42 v0_4 r.2.moves] w' := by
 refine Ret_of (args := [pl gp0 0]) Go.Proofs.Try.func41 rfl rfl ?_
 change C _ _ _ _ [(0, pl gp0 0)] _
 dsimp only [mounts_walk_free] at H
 refine C_seq ?_
 refine C_region ?_
 refine W_assign rfl rfl ?_
 refine W_nil ?_
 refine N_code ?_
 refine C_seq ?_
 refine C_region ?_
 refine W_assign rfl rfl ?_
 refine W_nil ?_
 refine N_code ?_
 refine C_seq_join (fun E wq => ∃ i2 : Int, mounts_walk_free.k1 x0 i2 = some r ∧ ∃ (F1 : Frz), E = [(3, .int .i64 i2)] ∧ F.le F1 ∧ St X w F F1 [.box gp0 70 [v0_0, v0_1, v0_2, .map (some gv0_3), v0_4, .int .i64 x0.mounts], .row tI 3 v0_0 x0.holds, .row tI 3 v0_1 x0.asked, .row tI 3 v0_2 x0.vols, .deep (tMap (ktInt Go.Proofs.Try.underlying3) (tRow Read.t 39) noHole) bsv0_3 [.map (some gv0_3)] x0.left, .row Move.t 42 v0_4 x0.moves] wq) ?_ ?_
 ·
  refine C_seq ?_
  refine C_region ?_
  refine W_move rfl rfl ?_
  refine W_nil_pl rfl rfl ?_
  refine W_field_pl 0 rfl Ty.field70_0 rfl ?_
  refine W_bld1 0 rfl Ty.cell22 rfl hS rfl rfl ?_
  refine W_lenv rfl Go.Proofs.Try.underlying22 rfl (hS.rowLn (k := 1) rfl) ?_
  refine W_move rfl rfl ?_
  refine W_nil ?_
  refine N_code ?_
  refine C_block ?_
  refine C_loopM (fun (s : Int × Int) E wq => ∃ (F3 : Frz), E = [(0, pl gp0 0), (3, .int .i64 s.1), (9, v0_0), (10, .int .i64 (x0.holds.length : Int)), (11, .int .i64 s.2)] ∧ F.le F3 ∧ St X w F F3 [.box gp0 70 [v0_0, v0_1, v0_2, .map (some gv0_3), v0_4, .int .i64 x0.mounts], .row tI 3 v0_0 x0.holds, .row tI 3 v0_1 x0.asked, .row tI 3 v0_2 x0.vols, .deep (tMap (ktInt Go.Proofs.Try.underlying3) (tRow Read.t 39) noHole) bsv0_3 [.map (some gv0_3)] x0.left, .row Move.t 42 v0_4 x0.moves] wq) H ?_ ?_
  ·
   exact ⟨_, ⟨F, rfl, (Frz.le.refl _), hS⟩, ⟨rfl, rfl, rfl, rfl, rfl, trivial⟩⟩
  ·
   rintro rec6 ⟨i4, i5⟩ E w3 hI H
   try dsimp only at hI
   obtain ⟨F3, rfl, le3, hS3⟩ := hI
   dsimp only [mounts_walk_free.l2] at H
   refine C_seq ?_
   refine C_region ?_
   refine W_lss rfl rfl rfl ?_
   refine W_nil ?_
   refine N_code ?_
   refine C_seq ?_
   refine C_cond rfl (fun hc7 => ?_) (fun hc7 => ?_)
   ·
    rw [if_t hc7] at H
    refine C_skip ?_
    refine N_code ?_
    refine C_seq_join (fun E wq => ∃ i9 : Int, mounts_walk_free.k3 i5 rec6 i9 = some r ∧ ∃ (F8 : Frz), E = [(0, pl gp0 0), (3, .int .i64 i9), (9, v0_0), (10, .int .i64 (x0.holds.length : Int)), (11, .int .i64 i5)] ∧ F3.le F8 ∧ St X w F F8 [.box gp0 70 [v0_0, v0_1, v0_2, .map (some gv0_3), v0_4, .int .i64 x0.mounts], .row tI 3 v0_0 x0.holds, .row tI 3 v0_1 x0.asked, .row tI 3 v0_2 x0.vols, .deep (tMap (ktInt Go.Proofs.Try.underlying3) (tRow Read.t 39) noHole) bsv0_3 [.map (some gv0_3)] x0.left, .row Move.t 42 v0_4 x0.moves] wq) ?_ ?_
    ·
     refine C_block ?_
     refine C_seq ?_
     obtain ⟨x10, hx10, H⟩ := bd_some H
     refine C_region ?_
     refine W_move rfl rfl ?_
     obtain ⟨hp12, hy12⟩ := ix_some hx10
     obtain ⟨cs12, hr12, he12⟩ := hS3.rowAt (k := 1) rfl hy12
     obtain rfl := hr12
     replace he12 : El _ _ 1 _ _ := he12
     refine W_ix rfl Go.Proofs.Try.underlying22 Ty.cells3 Ty.info3 rfl rfl he12 hp12 rfl ?_
     refine W_ld1 0 rfl Ty.cell3 rfl he12 (by omega) rfl ?_
     refine W_assign rfl rfl ?_
     refine W_assign rfl rfl ?_
     refine W_nil ?_
     refine N_code ?_
     refine C_block ?_
     refine C_seq ?_
     refine C_region ?_
     refine W_move rfl rfl ?_
     refine W_lss rfl rfl rfl ?_
     refine W_assign rfl rfl ?_
     refine W_nil ?_
     refine N_code ?_
     refine C_cond rfl (fun hc13 => ?_) (fun hc13 => ?_)
     ·
      rw [if_t hc13] at H
      refine C_seq ?_
      refine C_region ?_
      refine W_move rfl rfl ?_
      refine W_assign rfl rfl ?_
      refine W_nil ?_
      refine N_code ?_
      obtain rfl := Option.some.inj H
      refine C_ret rfl rfl ?_
      exact ⟨F3, bsv0_3, rfl, hS3⟩
     ·
      rw [if_f hc13] at H
      refine C_seq ?_
      obtain ⟨x14, hx14, H⟩ := bd_some H
      obtain ⟨x16, hx16, H⟩ := bd_some H
      obtain ⟨hp18, hy18⟩ := ix_some hx14
      obtain ⟨cs18, hr18, he18⟩ := hS3.rowAt (k := 2) rfl hy18
      obtain rfl := hr18
      replace he18 : El _ _ 1 _ _ := he18
      obtain ⟨hp19, hy19⟩ := ix_some hx16
      obtain ⟨cs19, hr19, he19⟩ := hS3.rowAt (k := 2) rfl hy19
      obtain rfl := hr19
      replace he19 : El _ _ 1 _ _ := he19
      apply C_draw 15 [[], [0], [1], [2], [], [3, 4], [5], [], [7], [8], [9], [], [10, 11], [12], [6, 13]] [.val (pl gp0 0), .val (pl gp0 0), .val (pl gp0 (0 + 1)), .val (v0_1), .val (.int .i64 i5), .val (elp v0_1 (i5.toNat * 1)), .val (.int .i64 x14), .val (pl gp0 0), .val (pl gp0 0), .val (pl gp0 (0 + 1)), .val (v0_1), .val (.int .i64 i4), .val (elp v0_1 (i4.toNat * 1)), .val (.int .i64 x16), .val (.bool (decide (x14 < x16)))] Ty.mixed rfl rfl (by kernel_rfl) (by kernel_rfl) rfl
      ·
       refine ⟨?_, ?_, ?_, ?_, ?_, ?_, ?_, ?_, ?_, ?_, ?_, ?_, ?_, ?_, ?_, trivial⟩
       ·
        intro w20 vq20 hB20 hH20
        have hS20 := hS3.below hB20
        refine W_move rfl rfl ?_
        refine W_nil ?_
        exact N_step rfl rfl (Below.refl _ _)
       ·
        intro w21 vq21 hB21 hH21
        have hS21 := hS3.below hB21
        refine W_nil_pl rfl rfl ?_
        refine W_nil ?_
        exact N_step rfl rfl (Below.refl _ _)
       ·
        intro w22 vq22 hB22 hH22
        have hS22 := hS3.below hB22
        refine W_field_pl 1 rfl Ty.field70_1 rfl ?_
        refine W_nil ?_
        exact N_step rfl rfl (Below.refl _ _)
       ·
        intro w23 vq23 hB23 hH23
        have hS23 := hS3.below hB23
        refine W_bld1 0 rfl Ty.cell22 rfl hS23 rfl rfl ?_
        refine W_nil ?_
        exact N_step rfl rfl (Below.refl _ _)
       ·
        intro w24 vq24 hB24 hH24
        have hS24 := hS3.below hB24
        refine W_move rfl rfl ?_
        refine W_nil ?_
        exact N_step rfl rfl (Below.refl _ _)
       ·
        intro w25 vq25 hB25 hH25
        have hS25 := hS3.below hB25
        refine W_ix rfl Go.Proofs.Try.underlying22 Ty.cells3 Ty.info3 rfl rfl (he18.below hB25) hp18 rfl ?_
        refine W_nil ?_
        exact N_step rfl rfl (Below.refl _ _)
       ·
        intro w26 vq26 hB26 hH26
        have hS26 := hS3.below hB26
        refine W_ld1 0 rfl Ty.cell3 rfl (he18.below hB26) (by omega) rfl ?_
        refine W_nil ?_
        exact N_step rfl rfl (Below.refl _ _)
       ·
        intro w27 vq27 hB27 hH27
        have hS27 := hS3.below hB27
        refine W_move rfl rfl ?_
        refine W_nil ?_
        exact N_step rfl rfl (Below.refl _ _)
       ·
        intro w28 vq28 hB28 hH28
        have hS28 := hS3.below hB28
        refine W_nil_pl rfl rfl ?_
        refine W_nil ?_
        exact N_step rfl rfl (Below.refl _ _)
       ·
        intro w29 vq29 hB29 hH29
        have hS29 := hS3.below hB29
        refine W_field_pl 1 rfl Ty.field70_1 rfl ?_
        refine W_nil ?_
        exact N_step rfl rfl (Below.refl _ _)
       ·
        intro w30 vq30 hB30 hH30
        have hS30 := hS3.below hB30
        refine W_bld1 0 rfl Ty.cell22 rfl hS30 rfl rfl ?_
        refine W_nil ?_
        exact N_step rfl rfl (Below.refl _ _)
       ·
        intro w31 vq31 hB31 hH31
        have hS31 := hS3.below hB31
        refine W_move rfl rfl ?_
        refine W_nil ?_
        exact N_step rfl rfl (Below.refl _ _)
       ·
        intro w32 vq32 hB32 hH32
        have hS32 := hS3.below hB32
        refine W_ix rfl Go.Proofs.Try.underlying22 Ty.cells3 Ty.info3 rfl rfl (he19.below hB32) hp19 rfl ?_
        refine W_nil ?_
        exact N_step rfl rfl (Below.refl _ _)
       ·
        intro w33 vq33 hB33 hH33
        have hS33 := hS3.below hB33
        refine W_ld1 0 rfl Ty.cell3 rfl (he19.below hB33) (by omega) rfl ?_
        refine W_nil ?_
        exact N_step rfl rfl (Below.refl _ _)
       ·
        intro w34 vq34 hB34 hH34
        have hS34 := hS3.below hB34
        refine W_lss rfl rfl rfl ?_
        refine W_nil ?_
        exact N_step rfl rfl (Below.refl _ _)
      intro w35 vq35 hB35 hH35
      have hS35 := hS3.below hB35
      refine W_assign rfl rfl ?_
      refine W_nil ?_
      refine N_code ?_
      refine C_cond rfl (fun hc36 => ?_) (fun hc36 => ?_)
      ·
       rw [if_t hc36] at H
       refine C_region ?_
       refine W_move rfl rfl ?_
       refine W_assign rfl rfl ?_
       refine W_nil ?_
       refine N_block ?_
       refine N_block ?_
       exact N_join _ ⟨i5, H, ⟨F3, rfl, (Frz.le.refl _), hS35⟩⟩ ⟨rfl, rfl, rfl, rfl, rfl, trivial⟩
      ·
       rw [if_f hc36] at H
       refine C_skip ?_
       refine N_block ?_
       refine N_block ?_
       exact N_join _ ⟨i4, H, ⟨F3, rfl, (Frz.le.refl _), hS35⟩⟩ ⟨rfl, rfl, rfl, rfl, rfl, trivial⟩
    ·
     rintro E w8 ⟨i9, H, F8, rfl, le8, hS8⟩
     dsimp only [mounts_walk_free.k3] at H
     refine C_region ?_
     refine W_add rfl rfl rfl rfl ?_
     refine W_move rfl rfl ?_
     refine W_nil ?_
     exact N_againM (i9, wr (i5 + 1)) _ H ⟨F8, rfl, (le3.trans le8), hS8⟩ ⟨rfl, rfl, rfl, rfl, rfl, trivial⟩
   ·
    rw [if_f hc7] at H
    refine C_exit _ rfl ?_
    exact N_join _ ⟨i4, H, ⟨F3, rfl, le3, hS3⟩⟩ ⟨rfl, trivial⟩
 ·
  rintro E w1 ⟨i2, H, F1, rfl, le1, hS1⟩
  dsimp only [mounts_walk_free.k1] at H
  refine C_seq ?_
  refine C_region ?_
  refine W_move rfl rfl ?_
  refine W_assign rfl rfl ?_
  refine W_nil ?_
  refine N_code ?_
  obtain rfl := Option.some.inj H
  refine C_ret rfl rfl ?_
  exact ⟨F1, bsv0_3, rfl, hS1⟩

def mounts_Moves.k3 (i158 : Int) (m159 : Int → Option (List Read)) (l161 : List Int) (l162 : List Int) (l163 : List Int) (l164 : List Move) : Option ((List Move) × Int) :=
  some (l164, 0)


def mounts_Moves.k5 (i167 : Int) (rec176 : (Int × Int × (Int → Option (List Read)) × (List Int) × (List Int) × (List Int) × (List Move)) → Option ((List Move) × Int)) (i179 : Int) (m180 : Int → Option (List Read)) (l182 : List Int) (l183 : List Int) (l184 : List Int) (l185 : List Move) : Option ((List Move) × Int) :=
  rec176 (wr (i167 + 1), i179, m180, l182, l183, l184, l185)


def mounts_Moves.l4 (l154 : List Int) (rec176 : (Int × Int × (Int → Option (List Read)) × (List Int) × (List Int) × (List Int) × (List Move)) → Option ((List Move) × Int)) : (Int × Int × (Int → Option (List Read)) × (List Int) × (List Int) × (List Int) × (List Move)) → Option ((List Move) × Int)
  | (i167, i168, m169, l171, l172, l173, l174) =>
    if decide (i167 < (l154.length : Int)) then
      bd (ix l171 i167) fun x187 =>
      bd (some ((m169 x187).getD [])) fun l191 =>
      if decide ((l191.length : Int) = 0) then
        mounts_Moves.k5 i167 rec176 i168 m169 l171 l172 l173 l174
      else
        bd (mounts_walk_free (MountsWalk.mk l173 l172 l171 m169 l174 i168)) fun r195 =>
        bd (ix r195.2.holds r195.1) fun x198 =>
        bd (ix r195.2.asked r195.1) fun x200 =>
        bd (app (α := Move) r195.2.moves [(Move.mk 1 r195.1 x187 (Loc.mk 0 0 0 0))]) fun l269 =>
        bd (mounts_walk_read (MountsWalk.mk (r195.2.holds.set r195.1.toNat x187) (r195.2.asked.set r195.1.toNat (wr (r195.2.mounts + 1))) r195.2.vols r195.2.left l269 (wr (r195.2.mounts + 1))) r195.1) fun r272 =>
        mounts_Moves.k5 i167 rec176 r272.mounts r272.left r272.vols r272.asked r272.holds r272.moves
    else
      mounts_Moves.k3 i168 m169 l171 l172 l173 l174


def mounts_Moves.k2 (l148 : List Move) (i151 : Int) (m152 : Int → Option (List Read)) (l154 : List Int) (l155 : List Int) (l156 : List Int) : Option ((List Move) × Int) :=
  loop (mounts_Moves.l4 l154) (0, i151, m152, l154, l155, l156, l148)


def mounts_Moves.k7 (i275 : Int) (rec285 : (Int × (List Move) × Int × (Int → Option (List Read)) × (List Int) × (List Int) × (List Int)) → Option ((List Move) × Int)) (l288 : List Move) (i291 : Int) (m292 : Int → Option (List Read)) (l294 : List Int) (l295 : List Int) (l296 : List Int) : Option ((List Move) × Int) :=
  rec285 (wr (i275 + 1), l288, i291, m292, l294, l295, l296)


def mounts_Moves.l6 (r6 : (List Int)) (rec285 : (Int × (List Move) × Int × (Int → Option (List Read)) × (List Int) × (List Int) × (List Int)) → Option ((List Move) × Int)) : (Int × (List Move) × Int × (Int → Option (List Read)) × (List Int) × (List Int) × (List Int)) → Option ((List Move) × Int)
  | (i275, l276, i279, m280, l282, l283, l284) =>
    if decide (i275 < (r6.length : Int)) then
      bd (ix l284 i275) fun x297 =>
      if decide (0 ≤ x297) then
        bd (mounts_walk_read (MountsWalk.mk l284 l283 l282 m280 l276 i279) i275) fun r301 =>
        mounts_Moves.k7 i275 rec285 r301.moves r301.mounts r301.left r301.vols r301.asked r301.holds
      else
        mounts_Moves.k7 i275 rec285 l276 i279 m280 l282 l283 l284
    else
      mounts_Moves.k2 l276 i279 m280 l282 l283 l284


def mounts_Moves.k1 (r6 : (List Int)) (l7 : List Int) (r9 : (List Int)) (m145 : Int → Option (List Read)) : Option ((List Move) × Int) :=
  loop (mounts_Moves.l6 r6) (0, [], 0, m145, r9, l7, r6)


def mounts_Moves.l8 (x1 : List Read) (r6 : (List Int)) (l7 : List Int) (r9 : (List Int)) (rec309 : (Int × (Int → Option (List Read))) → Option ((List Move) × Int)) : (Int × (Int → Option (List Read))) → Option ((List Move) × Int)
  | (i306, m307) =>
    if decide (i306 < (x1.length : Int)) then
      bd (ix x1 i306) fun x311 =>
      bd (some ((m307 x311.loc.vol).getD [])) fun l317 =>
      bd (app (α := Read) l317 [x311]) fun l319 =>
      rec309 (wr (i306 + 1), (mput m307 x311.loc.vol l319))
    else
      mounts_Moves.k1 r6 l7 r9 m307

def mounts_Moves (x0 : List Int) (x1 : List Read) : Option ((List Move) × Int) :=
  bd (mounts_wrong x0 x1) fun r1 =>
  if decide (r1 ≠ 0) then
    some ([], r1)
  else
    bd (slices_Clone_int_int x0) fun r6 =>
    bd (rep (x0.length : Int) 0) fun l7 =>
    bd (plan_Vols x1) fun r9 =>
    loop (mounts_Moves.l8 x1 r6 l7 r9) (0, (mnil : Int → Option (List Read)))

theorem mounts_Moves_ok {F : Frz} {w : World} {x0 : List Int} {x1 : List Read} {r : (List Move) × Int} {v0 : Value} {v1 : Value} (hA : Agree F w.heap) (h0 : SlF tI F v0 x0) (h1 : SlF Read.t F v1 x1) (H : mounts_Moves x0 x1 = some r) : Ret Try.prog 16 #[v0, v1] w fun v w' => ∃ (F' : Frz) (q0 : Value), v = .tuple #[q0, .int .i64 r.2] ∧ St [] w F F' [.row Move.t 42 q0 (r.1)] w' := by
 refine Ret_of (args := [v0, v1]) Go.Proofs.Try.func16 rfl rfl ?_
 change C _ _ _ _ [(0, v0), (1, v1)] _
 have hS := St.entry hA
 dsimp only [mounts_Moves] at H
 refine C_seq ?_
 refine C_region ?_
 refine W_assign rfl rfl ?_
 refine W_assign rfl rfl ?_
 refine W_nil ?_
 refine N_code ?_
 refine C_seq ?_
 obtain ⟨r1, hr1, H⟩ := bd_some H
 refine C_region ?_
 refine W_move rfl rfl ?_
 refine W_move rfl rfl ?_
 refine W_call rfl Ty.named38 rfl (mounts_wrong_ok hS.agree h0 h1 hr1) ?_
 rintro v2 w2 ⟨Fr1, rfl, hT2⟩
 have hS2 := hS.lent hT2
 refine W_assign rfl rfl ?_
 refine W_nil ?_
 refine N_code ?_
 refine C_seq ?_
 refine C_seq ?_
 refine C_region ?_
 refine W_move rfl rfl ?_
 refine W_neq rfl rfl rfl ?_
 refine W_nil ?_
 refine N_code ?_
 refine C_cond rfl (fun hc3 => ?_) (fun hc3 => ?_)
 ·
  rw [if_t hc3] at H
  refine C_seq ?_
  refine C_region ?_
  refine W_move rfl rfl ?_
  refine W_assign rfl rfl ?_
  refine W_assign rfl rfl ?_
  refine W_nil ?_
  refine N_code ?_
  have hS5 := hS2.nilRow Move.t 42
  obtain rfl := Option.some.inj H
  refine C_ret rfl rfl ?_
  exact ⟨F, (.slice none 0 0), rfl, hS5⟩
 ·
  rw [if_f hc3] at H
  refine C_skip ?_
  refine N_code ?_
  refine C_seq ?_
  obtain ⟨r6, hr6, H⟩ := bd_some H
  obtain ⟨l7, hl7, H⟩ := bd_some H
  obtain ⟨r9, hr9, H⟩ := bd_some H
  apply C_drawJ (fun D vs wz => ∀ (b1 b4 b6 b7 b8 : Bool), D 1 = b1 → D 4 = b4 → D 6 = b6 → D 7 = b7 → D 8 = b8 → match b1, b4, b6, b7, b8 with | false, false, false, false, false => ∃ FJ : Frz, F.le FJ ∧ St [] w F FJ [] wz | true, false, false, false, false => ∃ FJ : Frz, ∃ ur6_0 : Value, vs 1 = ur6_0 ∧ F.le FJ ∧ St [] w F FJ [.row tI 3 ur6_0 r6] wz | false, true, false, false, false => ∃ FJ : Frz, ∃ v8 : Value, vs 4 = v8 ∧ F.le FJ ∧ St [] w F FJ [.row tI 3 v8 l7] wz | true, true, false, false, false => ∃ FJ : Frz, ∃ ur6_0 : Value, ∃ v8 : Value, vs 1 = ur6_0 ∧ vs 4 = v8 ∧ F.le FJ ∧ St [] w F FJ [.row tI 3 v8 l7, .row tI 3 ur6_0 r6] wz | true, false, true, false, false => ∃ FJ : Frz, ∃ ur6_0 : Value, ∃ ur9_0 : Value, vs 1 = ur6_0 ∧ vs 6 = ur9_0 ∧ F.le FJ ∧ St [] w F FJ [.row tI 3 ur9_0 r9, .row tI 3 ur6_0 r6] wz | true, true, true, false, false => ∃ FJ : Frz, ∃ ur6_0 : Value, ∃ v8 : Value, ∃ ur9_0 : Value, vs 1 = ur6_0 ∧ vs 4 = v8 ∧ vs 6 = ur9_0 ∧ F.le FJ ∧ St [] w F FJ [.row tI 3 ur9_0 r9, .row tI 3 v8 l7, .row tI 3 ur6_0 r6] wz | false, false, false, true, false => ∃ FJ : Frz, ∃ g10 : Nat, vs 7 = .map (some g10) ∧ F.le FJ ∧ St [] w F FJ [.deep (tMap (ktInt Go.Proofs.Try.underlying3) (tRow Read.t 39) noHole) [g10] [.map (some g10)] (mnil : Int → Option (List Read))] wz | true, false, false, true, false => ∃ FJ : Frz, ∃ ur6_0 : Value, ∃ g10 : Nat, vs 1 = ur6_0 ∧ vs 7 = .map (some g10) ∧ F.le FJ ∧ St [] w F FJ [.deep (tMap (ktInt Go.Proofs.Try.underlying3) (tRow Read.t 39) noHole) [g10] [.map (some g10)] (mnil : Int → Option (List Read)), .row tI 3 ur6_0 r6] wz | false, true, false, true, false => ∃ FJ : Frz, ∃ v8 : Value, ∃ g10 : Nat, vs 4 = v8 ∧ vs 7 = .map (some g10) ∧ F.le FJ ∧ St [] w F FJ [.deep (tMap (ktInt Go.Proofs.Try.underlying3) (tRow Read.t 39) noHole) [g10] [.map (some g10)] (mnil : Int → Option (List Read)), .row tI 3 v8 l7] wz | true, true, false, true, false => ∃ FJ : Frz, ∃ ur6_0 : Value, ∃ v8 : Value, ∃ g10 : Nat, vs 1 = ur6_0 ∧ vs 4 = v8 ∧ vs 7 = .map (some g10) ∧ F.le FJ ∧ St [] w F FJ [.deep (tMap (ktInt Go.Proofs.Try.underlying3) (tRow Read.t 39) noHole) [g10] [.map (some g10)] (mnil : Int → Option (List Read)), .row tI 3 v8 l7, .row tI 3 ur6_0 r6] wz | true, false, true, true, false => ∃ FJ : Frz, ∃ ur6_0 : Value, ∃ ur9_0 : Value, ∃ g10 : Nat, vs 1 = ur6_0 ∧ vs 6 = ur9_0 ∧ vs 7 = .map (some g10) ∧ F.le FJ ∧ St [] w F FJ [.deep (tMap (ktInt Go.Proofs.Try.underlying3) (tRow Read.t 39) noHole) [g10] [.map (some g10)] (mnil : Int → Option (List Read)), .row tI 3 ur9_0 r9, .row tI 3 ur6_0 r6] wz | true, true, true, true, false => ∃ FJ : Frz, ∃ ur6_0 : Value, ∃ v8 : Value, ∃ ur9_0 : Value, ∃ g10 : Nat, vs 1 = ur6_0 ∧ vs 4 = v8 ∧ vs 6 = ur9_0 ∧ vs 7 = .map (some g10) ∧ F.le FJ ∧ St [] w F FJ [.deep (tMap (ktInt Go.Proofs.Try.underlying3) (tRow Read.t 39) noHole) [g10] [.map (some g10)] (mnil : Int → Option (List Read)), .row tI 3 ur9_0 r9, .row tI 3 v8 l7, .row tI 3 ur6_0 r6] wz | true, true, true, true, true => ∃ FJ : Frz, ∃ ur6_0 : Value, ∃ v8 : Value, ∃ ur9_0 : Value, ∃ g10 : Nat, vs 1 = ur6_0 ∧ vs 4 = v8 ∧ vs 6 = ur9_0 ∧ vs 7 = .map (some g10) ∧ vs 8 = .agg #[ur6_0, v8, ur9_0, .map (some g10), .slice none 0 0, .int .i64 0] ∧ F.le FJ ∧ St [] w F FJ [.deep (tMap (ktInt Go.Proofs.Try.underlying3) (tRow Read.t 39) noHole) [g10] [.map (some g10)] (mnil : Int → Option (List Read)), .row tI 3 ur9_0 r9, .row tI 3 v8 l7, .row tI 3 ur6_0 r6] wz | _, _, _, _, _ => False) 9 [[], [0], [], [2], [3], [], [1, 5], [], [1, 4, 6, 7]] [some (v0), none, some (v0), some (.int .i64 (x0.length : Int)), none, some (v1), none, none, none] Ty.mixed rfl (by kernel_rfl) (by kernel_rfl) rfl
  ·
   intro vq39 b1 b4 b6 b7 b8 h1 h4 h6 h7 h8
   obtain rfl : b1 = false := h1.symm
   obtain rfl : b4 = false := h4.symm
   obtain rfl : b6 = false := h6.symm
   obtain rfl : b7 = false := h7.symm
   obtain rfl : b8 = false := h8.symm
   exact ⟨F, (Frz.le.refl _), (hS2.below (below_drew _))⟩
  ·
   refine ⟨?_, ?_, ?_, ?_, ?_, ?_, ?_, ?_, ?_, trivial⟩
   ·
    intro w40 vq40 D40 hD40 hd40 hJ40
    refine W_move rfl rfl ?_
    refine W_nil ?_
    exact N_stepJ rfl (fun u hu => Option.some.inj hu) hJ40
   ·
    intro w41 vq41 D41 hD41 hd41 hJ41
    rcases Bool.eq_false_or_eq_true (D41 4) with hb42 | hb42
    ·
     rcases Bool.eq_false_or_eq_true (D41 6) with hb43 | hb43
     ·
      rcases Bool.eq_false_or_eq_true (D41 7) with hb44 | hb44
      ·
       rcases Bool.eq_false_or_eq_true (D41 8) with hb45 | hb45
       ·
        exact False.elim (hJ41 false true true true true hD41 hb42 hb43 hb44 hb45)
       ·
        exact False.elim (hJ41 false true true true false hD41 hb42 hb43 hb44 hb45)
      ·
       rcases Bool.eq_false_or_eq_true (D41 8) with hb46 | hb46
       ·
        exact False.elim (hJ41 false true true false true hD41 hb42 hb43 hb44 hb46)
       ·
        exact False.elim (hJ41 false true true false false hD41 hb42 hb43 hb44 hb46)
     ·
      rcases Bool.eq_false_or_eq_true (D41 7) with hb47 | hb47
      ·
       rcases Bool.eq_false_or_eq_true (D41 8) with hb48 | hb48
       ·
        exact False.elim (hJ41 false true false true true hD41 hb42 hb43 hb47 hb48)
       ·
        obtain ⟨FJ41, v8, g10, he41_4, he41_7, leJ41, hSJ41⟩ := (hJ41 false true false true false hD41 hb42 hb43 hb47 hb48)
        refine W_call rfl Ty.named39 rfl (slices_Clone_int_int_ok hSJ41.agree (h0.mono leJ41) hr6) ?_
        rintro ur6_0 w49 ⟨Fr6, _, rfl, hT49⟩
        have hS49 := hSJ41.call hT49
        have ler6 := hT49.ext
        refine W_nil ?_
        exact N_stepJ rfl (fun u (hu : (none : Option Value) = some u) => by cases hu) (fun b1 b4 b6 b7 b8 h1 h4 h6 h7 h8 => by obtain rfl : b1 = true := h1.symm; obtain rfl : b4 = true := h4.symm.trans hb42; obtain rfl : b6 = false := h6.symm.trans hb43; obtain rfl : b7 = true := h7.symm.trans hb47; obtain rfl : b8 = false := h8.symm.trans hb48; exact ⟨Fr6, ur6_0, v8, g10, rfl, he41_4, he41_7, (leJ41.trans ler6), hS49.pick [1, 2, 0] (by decide)⟩)
      ·
       rcases Bool.eq_false_or_eq_true (D41 8) with hb50 | hb50
       ·
        exact False.elim (hJ41 false true false false true hD41 hb42 hb43 hb47 hb50)
       ·
        obtain ⟨FJ41, v8, he41_4, leJ41, hSJ41⟩ := (hJ41 false true false false false hD41 hb42 hb43 hb47 hb50)
        refine W_call rfl Ty.named39 rfl (slices_Clone_int_int_ok hSJ41.agree (h0.mono leJ41) hr6) ?_
        rintro ur6_0 w51 ⟨Fr6, _, rfl, hT51⟩
        have hS51 := hSJ41.call hT51
        have ler6 := hT51.ext
        refine W_nil ?_
        exact N_stepJ rfl (fun u (hu : (none : Option Value) = some u) => by cases hu) (fun b1 b4 b6 b7 b8 h1 h4 h6 h7 h8 => by obtain rfl : b1 = true := h1.symm; obtain rfl : b4 = true := h4.symm.trans hb42; obtain rfl : b6 = false := h6.symm.trans hb43; obtain rfl : b7 = false := h7.symm.trans hb47; obtain rfl : b8 = false := h8.symm.trans hb50; exact ⟨Fr6, ur6_0, v8, rfl, he41_4, (leJ41.trans ler6), hS51.pick [1, 0] (by decide)⟩)
    ·
     rcases Bool.eq_false_or_eq_true (D41 6) with hb52 | hb52
     ·
      rcases Bool.eq_false_or_eq_true (D41 7) with hb53 | hb53
      ·
       rcases Bool.eq_false_or_eq_true (D41 8) with hb54 | hb54
       ·
        exact False.elim (hJ41 false false true true true hD41 hb42 hb52 hb53 hb54)
       ·
        exact False.elim (hJ41 false false true true false hD41 hb42 hb52 hb53 hb54)
      ·
       rcases Bool.eq_false_or_eq_true (D41 8) with hb55 | hb55
       ·
        exact False.elim (hJ41 false false true false true hD41 hb42 hb52 hb53 hb55)
       ·
        exact False.elim (hJ41 false false true false false hD41 hb42 hb52 hb53 hb55)
     ·
      rcases Bool.eq_false_or_eq_true (D41 7) with hb56 | hb56
      ·
       rcases Bool.eq_false_or_eq_true (D41 8) with hb57 | hb57
       ·
        exact False.elim (hJ41 false false false true true hD41 hb42 hb52 hb56 hb57)
       ·
        obtain ⟨FJ41, g10, he41_7, leJ41, hSJ41⟩ := (hJ41 false false false true false hD41 hb42 hb52 hb56 hb57)
        refine W_call rfl Ty.named39 rfl (slices_Clone_int_int_ok hSJ41.agree (h0.mono leJ41) hr6) ?_
        rintro ur6_0 w58 ⟨Fr6, _, rfl, hT58⟩
        have hS58 := hSJ41.call hT58
        have ler6 := hT58.ext
        refine W_nil ?_
        exact N_stepJ rfl (fun u (hu : (none : Option Value) = some u) => by cases hu) (fun b1 b4 b6 b7 b8 h1 h4 h6 h7 h8 => by obtain rfl : b1 = true := h1.symm; obtain rfl : b4 = false := h4.symm.trans hb42; obtain rfl : b6 = false := h6.symm.trans hb52; obtain rfl : b7 = true := h7.symm.trans hb56; obtain rfl : b8 = false := h8.symm.trans hb57; exact ⟨Fr6, ur6_0, g10, rfl, he41_7, (leJ41.trans ler6), hS58.pick [1, 0] (by decide)⟩)
      ·
       rcases Bool.eq_false_or_eq_true (D41 8) with hb59 | hb59
       ·
        exact False.elim (hJ41 false false false false true hD41 hb42 hb52 hb56 hb59)
       ·
        obtain ⟨FJ41, leJ41, hSJ41⟩ := (hJ41 false false false false false hD41 hb42 hb52 hb56 hb59)
        refine W_call rfl Ty.named39 rfl (slices_Clone_int_int_ok hSJ41.agree (h0.mono leJ41) hr6) ?_
        rintro ur6_0 w60 ⟨Fr6, _, rfl, hT60⟩
        have hS60 := hSJ41.call hT60
        have ler6 := hT60.ext
        refine W_nil ?_
        exact N_stepJ rfl (fun u (hu : (none : Option Value) = some u) => by cases hu) (fun b1 b4 b6 b7 b8 h1 h4 h6 h7 h8 => by obtain rfl : b1 = true := h1.symm; obtain rfl : b4 = false := h4.symm.trans hb42; obtain rfl : b6 = false := h6.symm.trans hb52; obtain rfl : b7 = false := h7.symm.trans hb56; obtain rfl : b8 = false := h8.symm.trans hb59; exact ⟨Fr6, ur6_0, rfl, (leJ41.trans ler6), hS60⟩)
   ·
    intro w61 vq61 D61 hD61 hd61 hJ61
    refine W_move rfl rfl ?_
    refine W_nil ?_
    exact N_stepJ rfl (fun u hu => Option.some.inj hu) hJ61
   ·
    intro w62 vq62 D62 hD62 hd62 hJ62
    rcases Bool.eq_false_or_eq_true (D62 1) with hb63 | hb63
    ·
     rcases Bool.eq_false_or_eq_true (D62 4) with hb64 | hb64
     ·
      rcases Bool.eq_false_or_eq_true (D62 6) with hb65 | hb65
      ·
       rcases Bool.eq_false_or_eq_true (D62 7) with hb66 | hb66
       ·
        rcases Bool.eq_false_or_eq_true (D62 8) with hb67 | hb67
        ·
         obtain ⟨FJ62, ur6_0, v8, ur9_0, g10, he62_1, he62_4, he62_6, he62_7, he62_8, leJ62, hSJ62⟩ := (hJ62 true true true true true hb63 hb64 hb65 hb66 hb67)
         refine W_lenv rfl Go.Proofs.Try.underlying22 rfl h0.ln ?_
         refine W_nil ?_
         exact N_stepJ rfl (fun u hu => Option.some.inj hu) (fun b1 b4 b6 b7 b8 h1 h4 h6 h7 h8 => by obtain rfl : b1 = true := h1.symm.trans hb63; obtain rfl : b4 = true := h4.symm.trans hb64; obtain rfl : b6 = true := h6.symm.trans hb65; obtain rfl : b7 = true := h7.symm.trans hb66; obtain rfl : b8 = true := h8.symm.trans hb67; exact ⟨FJ62, ur6_0, v8, ur9_0, g10, he62_1, he62_4, he62_6, he62_7, he62_8, leJ62, hSJ62⟩)
        ·
         obtain ⟨FJ62, ur6_0, v8, ur9_0, g10, he62_1, he62_4, he62_6, he62_7, leJ62, hSJ62⟩ := (hJ62 true true true true false hb63 hb64 hb65 hb66 hb67)
         refine W_lenv rfl Go.Proofs.Try.underlying22 rfl h0.ln ?_
         refine W_nil ?_
         exact N_stepJ rfl (fun u hu => Option.some.inj hu) (fun b1 b4 b6 b7 b8 h1 h4 h6 h7 h8 => by obtain rfl : b1 = true := h1.symm.trans hb63; obtain rfl : b4 = true := h4.symm.trans hb64; obtain rfl : b6 = true := h6.symm.trans hb65; obtain rfl : b7 = true := h7.symm.trans hb66; obtain rfl : b8 = false := h8.symm.trans hb67; exact ⟨FJ62, ur6_0, v8, ur9_0, g10, he62_1, he62_4, he62_6, he62_7, leJ62, hSJ62⟩)
       ·
        rcases Bool.eq_false_or_eq_true (D62 8) with hb68 | hb68
        ·
         exact False.elim (hJ62 true true true false true hb63 hb64 hb65 hb66 hb68)
        ·
         obtain ⟨FJ62, ur6_0, v8, ur9_0, he62_1, he62_4, he62_6, leJ62, hSJ62⟩ := (hJ62 true true true false false hb63 hb64 hb65 hb66 hb68)
         refine W_lenv rfl Go.Proofs.Try.underlying22 rfl h0.ln ?_
         refine W_nil ?_
         exact N_stepJ rfl (fun u hu => Option.some.inj hu) (fun b1 b4 b6 b7 b8 h1 h4 h6 h7 h8 => by obtain rfl : b1 = true := h1.symm.trans hb63; obtain rfl : b4 = true := h4.symm.trans hb64; obtain rfl : b6 = true := h6.symm.trans hb65; obtain rfl : b7 = false := h7.symm.trans hb66; obtain rfl : b8 = false := h8.symm.trans hb68; exact ⟨FJ62, ur6_0, v8, ur9_0, he62_1, he62_4, he62_6, leJ62, hSJ62⟩)
      ·
       rcases Bool.eq_false_or_eq_true (D62 7) with hb69 | hb69
       ·
        rcases Bool.eq_false_or_eq_true (D62 8) with hb70 | hb70
        ·
         exact False.elim (hJ62 true true false true true hb63 hb64 hb65 hb69 hb70)
        ·
         obtain ⟨FJ62, ur6_0, v8, g10, he62_1, he62_4, he62_7, leJ62, hSJ62⟩ := (hJ62 true true false true false hb63 hb64 hb65 hb69 hb70)
         refine W_lenv rfl Go.Proofs.Try.underlying22 rfl h0.ln ?_
         refine W_nil ?_
         exact N_stepJ rfl (fun u hu => Option.some.inj hu) (fun b1 b4 b6 b7 b8 h1 h4 h6 h7 h8 => by obtain rfl : b1 = true := h1.symm.trans hb63; obtain rfl : b4 = true := h4.symm.trans hb64; obtain rfl : b6 = false := h6.symm.trans hb65; obtain rfl : b7 = true := h7.symm.trans hb69; obtain rfl : b8 = false := h8.symm.trans hb70; exact ⟨FJ62, ur6_0, v8, g10, he62_1, he62_4, he62_7, leJ62, hSJ62⟩)
       ·
        rcases Bool.eq_false_or_eq_true (D62 8) with hb71 | hb71
        ·
         exact False.elim (hJ62 true true false false true hb63 hb64 hb65 hb69 hb71)
        ·
         obtain ⟨FJ62, ur6_0, v8, he62_1, he62_4, leJ62, hSJ62⟩ := (hJ62 true true false false false hb63 hb64 hb65 hb69 hb71)
         refine W_lenv rfl Go.Proofs.Try.underlying22 rfl h0.ln ?_
         refine W_nil ?_
         exact N_stepJ rfl (fun u hu => Option.some.inj hu) (fun b1 b4 b6 b7 b8 h1 h4 h6 h7 h8 => by obtain rfl : b1 = true := h1.symm.trans hb63; obtain rfl : b4 = true := h4.symm.trans hb64; obtain rfl : b6 = false := h6.symm.trans hb65; obtain rfl : b7 = false := h7.symm.trans hb69; obtain rfl : b8 = false := h8.symm.trans hb71; exact ⟨FJ62, ur6_0, v8, he62_1, he62_4, leJ62, hSJ62⟩)
     ·
      rcases Bool.eq_false_or_eq_true (D62 6) with hb72 | hb72
      ·
       rcases Bool.eq_false_or_eq_true (D62 7) with hb73 | hb73
       ·
        rcases Bool.eq_false_or_eq_true (D62 8) with hb74 | hb74
        ·
         exact False.elim (hJ62 true false true true true hb63 hb64 hb72 hb73 hb74)
        ·
         obtain ⟨FJ62, ur6_0, ur9_0, g10, he62_1, he62_6, he62_7, leJ62, hSJ62⟩ := (hJ62 true false true true false hb63 hb64 hb72 hb73 hb74)
         refine W_lenv rfl Go.Proofs.Try.underlying22 rfl h0.ln ?_
         refine W_nil ?_
         exact N_stepJ rfl (fun u hu => Option.some.inj hu) (fun b1 b4 b6 b7 b8 h1 h4 h6 h7 h8 => by obtain rfl : b1 = true := h1.symm.trans hb63; obtain rfl : b4 = false := h4.symm.trans hb64; obtain rfl : b6 = true := h6.symm.trans hb72; obtain rfl : b7 = true := h7.symm.trans hb73; obtain rfl : b8 = false := h8.symm.trans hb74; exact ⟨FJ62, ur6_0, ur9_0, g10, he62_1, he62_6, he62_7, leJ62, hSJ62⟩)
       ·
        rcases Bool.eq_false_or_eq_true (D62 8) with hb75 | hb75
        ·
         exact False.elim (hJ62 true false true false true hb63 hb64 hb72 hb73 hb75)
        ·
         obtain ⟨FJ62, ur6_0, ur9_0, he62_1, he62_6, leJ62, hSJ62⟩ := (hJ62 true false true false false hb63 hb64 hb72 hb73 hb75)
         refine W_lenv rfl Go.Proofs.Try.underlying22 rfl h0.ln ?_
         refine W_nil ?_
         exact N_stepJ rfl (fun u hu => Option.some.inj hu) (fun b1 b4 b6 b7 b8 h1 h4 h6 h7 h8 => by obtain rfl : b1 = true := h1.symm.trans hb63; obtain rfl : b4 = false := h4.symm.trans hb64; obtain rfl : b6 = true := h6.symm.trans hb72; obtain rfl : b7 = false := h7.symm.trans hb73; obtain rfl : b8 = false := h8.symm.trans hb75; exact ⟨FJ62, ur6_0, ur9_0, he62_1, he62_6, leJ62, hSJ62⟩)
      ·
       rcases Bool.eq_false_or_eq_true (D62 7) with hb76 | hb76
       ·
        rcases Bool.eq_false_or_eq_true (D62 8) with hb77 | hb77
        ·
         exact False.elim (hJ62 true false false true true hb63 hb64 hb72 hb76 hb77)
        ·
         obtain ⟨FJ62, ur6_0, g10, he62_1, he62_7, leJ62, hSJ62⟩ := (hJ62 true false false true false hb63 hb64 hb72 hb76 hb77)
         refine W_lenv rfl Go.Proofs.Try.underlying22 rfl h0.ln ?_
         refine W_nil ?_
         exact N_stepJ rfl (fun u hu => Option.some.inj hu) (fun b1 b4 b6 b7 b8 h1 h4 h6 h7 h8 => by obtain rfl : b1 = true := h1.symm.trans hb63; obtain rfl : b4 = false := h4.symm.trans hb64; obtain rfl : b6 = false := h6.symm.trans hb72; obtain rfl : b7 = true := h7.symm.trans hb76; obtain rfl : b8 = false := h8.symm.trans hb77; exact ⟨FJ62, ur6_0, g10, he62_1, he62_7, leJ62, hSJ62⟩)
       ·
        rcases Bool.eq_false_or_eq_true (D62 8) with hb78 | hb78
        ·
         exact False.elim (hJ62 true false false false true hb63 hb64 hb72 hb76 hb78)
        ·
         obtain ⟨FJ62, ur6_0, he62_1, leJ62, hSJ62⟩ := (hJ62 true false false false false hb63 hb64 hb72 hb76 hb78)
         refine W_lenv rfl Go.Proofs.Try.underlying22 rfl h0.ln ?_
         refine W_nil ?_
         exact N_stepJ rfl (fun u hu => Option.some.inj hu) (fun b1 b4 b6 b7 b8 h1 h4 h6 h7 h8 => by obtain rfl : b1 = true := h1.symm.trans hb63; obtain rfl : b4 = false := h4.symm.trans hb64; obtain rfl : b6 = false := h6.symm.trans hb72; obtain rfl : b7 = false := h7.symm.trans hb76; obtain rfl : b8 = false := h8.symm.trans hb78; exact ⟨FJ62, ur6_0, he62_1, leJ62, hSJ62⟩)
    ·
     rcases Bool.eq_false_or_eq_true (D62 4) with hb79 | hb79
     ·
      rcases Bool.eq_false_or_eq_true (D62 6) with hb80 | hb80
      ·
       rcases Bool.eq_false_or_eq_true (D62 7) with hb81 | hb81
       ·
        rcases Bool.eq_false_or_eq_true (D62 8) with hb82 | hb82
        ·
         exact False.elim (hJ62 false true true true true hb63 hb79 hb80 hb81 hb82)
        ·
         exact False.elim (hJ62 false true true true false hb63 hb79 hb80 hb81 hb82)
       ·
        rcases Bool.eq_false_or_eq_true (D62 8) with hb83 | hb83
        ·
         exact False.elim (hJ62 false true true false true hb63 hb79 hb80 hb81 hb83)
        ·
         exact False.elim (hJ62 false true true false false hb63 hb79 hb80 hb81 hb83)
      ·
       rcases Bool.eq_false_or_eq_true (D62 7) with hb84 | hb84
       ·
        rcases Bool.eq_false_or_eq_true (D62 8) with hb85 | hb85
        ·
         exact False.elim (hJ62 false true false true true hb63 hb79 hb80 hb84 hb85)
        ·
         obtain ⟨FJ62, v8, g10, he62_4, he62_7, leJ62, hSJ62⟩ := (hJ62 false true false true false hb63 hb79 hb80 hb84 hb85)
         refine W_lenv rfl Go.Proofs.Try.underlying22 rfl h0.ln ?_
         refine W_nil ?_
         exact N_stepJ rfl (fun u hu => Option.some.inj hu) (fun b1 b4 b6 b7 b8 h1 h4 h6 h7 h8 => by obtain rfl : b1 = false := h1.symm.trans hb63; obtain rfl : b4 = true := h4.symm.trans hb79; obtain rfl : b6 = false := h6.symm.trans hb80; obtain rfl : b7 = true := h7.symm.trans hb84; obtain rfl : b8 = false := h8.symm.trans hb85; exact ⟨FJ62, v8, g10, he62_4, he62_7, leJ62, hSJ62⟩)
       ·
        rcases Bool.eq_false_or_eq_true (D62 8) with hb86 | hb86
        ·
         exact False.elim (hJ62 false true false false true hb63 hb79 hb80 hb84 hb86)
        ·
         obtain ⟨FJ62, v8, he62_4, leJ62, hSJ62⟩ := (hJ62 false true false false false hb63 hb79 hb80 hb84 hb86)
         refine W_lenv rfl Go.Proofs.Try.underlying22 rfl h0.ln ?_
         refine W_nil ?_
         exact N_stepJ rfl (fun u hu => Option.some.inj hu) (fun b1 b4 b6 b7 b8 h1 h4 h6 h7 h8 => by obtain rfl : b1 = false := h1.symm.trans hb63; obtain rfl : b4 = true := h4.symm.trans hb79; obtain rfl : b6 = false := h6.symm.trans hb80; obtain rfl : b7 = false := h7.symm.trans hb84; obtain rfl : b8 = false := h8.symm.trans hb86; exact ⟨FJ62, v8, he62_4, leJ62, hSJ62⟩)
     ·
      rcases Bool.eq_false_or_eq_true (D62 6) with hb87 | hb87
      ·
       rcases Bool.eq_false_or_eq_true (D62 7) with hb88 | hb88
       ·
        rcases Bool.eq_false_or_eq_true (D62 8) with hb89 | hb89
        ·
         exact False.elim (hJ62 false false true true true hb63 hb79 hb87 hb88 hb89)
        ·
         exact False.elim (hJ62 false false true true false hb63 hb79 hb87 hb88 hb89)
       ·
        rcases Bool.eq_false_or_eq_true (D62 8) with hb90 | hb90
        ·
         exact False.elim (hJ62 false false true false true hb63 hb79 hb87 hb88 hb90)
        ·
         exact False.elim (hJ62 false false true false false hb63 hb79 hb87 hb88 hb90)
      ·
       rcases Bool.eq_false_or_eq_true (D62 7) with hb91 | hb91
       ·
        rcases Bool.eq_false_or_eq_true (D62 8) with hb92 | hb92
        ·
         exact False.elim (hJ62 false false false true true hb63 hb79 hb87 hb91 hb92)
        ·
         obtain ⟨FJ62, g10, he62_7, leJ62, hSJ62⟩ := (hJ62 false false false true false hb63 hb79 hb87 hb91 hb92)
         refine W_lenv rfl Go.Proofs.Try.underlying22 rfl h0.ln ?_
         refine W_nil ?_
         exact N_stepJ rfl (fun u hu => Option.some.inj hu) (fun b1 b4 b6 b7 b8 h1 h4 h6 h7 h8 => by obtain rfl : b1 = false := h1.symm.trans hb63; obtain rfl : b4 = false := h4.symm.trans hb79; obtain rfl : b6 = false := h6.symm.trans hb87; obtain rfl : b7 = true := h7.symm.trans hb91; obtain rfl : b8 = false := h8.symm.trans hb92; exact ⟨FJ62, g10, he62_7, leJ62, hSJ62⟩)
       ·
        rcases Bool.eq_false_or_eq_true (D62 8) with hb93 | hb93
        ·
         exact False.elim (hJ62 false false false false true hb63 hb79 hb87 hb91 hb93)
        ·
         obtain ⟨FJ62, leJ62, hSJ62⟩ := (hJ62 false false false false false hb63 hb79 hb87 hb91 hb93)
         refine W_lenv rfl Go.Proofs.Try.underlying22 rfl h0.ln ?_
         refine W_nil ?_
         exact N_stepJ rfl (fun u hu => Option.some.inj hu) (fun b1 b4 b6 b7 b8 h1 h4 h6 h7 h8 => by obtain rfl : b1 = false := h1.symm.trans hb63; obtain rfl : b4 = false := h4.symm.trans hb79; obtain rfl : b6 = false := h6.symm.trans hb87; obtain rfl : b7 = false := h7.symm.trans hb91; obtain rfl : b8 = false := h8.symm.trans hb93; exact ⟨FJ62, leJ62, hSJ62⟩)
   ·
    intro w94 vq94 D94 hD94 hd94 hJ94
    rcases Bool.eq_false_or_eq_true (D94 1) with hb95 | hb95
    ·
     rcases Bool.eq_false_or_eq_true (D94 6) with hb96 | hb96
     ·
      rcases Bool.eq_false_or_eq_true (D94 7) with hb97 | hb97
      ·
       rcases Bool.eq_false_or_eq_true (D94 8) with hb98 | hb98
       ·
        exact False.elim (hJ94 true false true true true hb95 hD94 hb96 hb97 hb98)
       ·
        obtain ⟨FJ94, ur6_0, ur9_0, g10, he94_1, he94_6, he94_7, leJ94, hSJ94⟩ := (hJ94 true false true true false hb95 hD94 hb96 hb97 hb98)
        refine W_mk (t := tI) (x0 := 0) rfl Go.Proofs.Try.underlying22 Ty.row3 rfl rfl rfl rfl hSJ94 rfl hl7 ?_
        intro v8 w8 hS8
        refine W_nil ?_
        exact N_stepJ rfl (fun u (hu : (none : Option Value) = some u) => by cases hu) (fun b1 b4 b6 b7 b8 h1 h4 h6 h7 h8 => by obtain rfl : b1 = true := h1.symm.trans hb95; obtain rfl : b4 = true := h4.symm; obtain rfl : b6 = true := h6.symm.trans hb96; obtain rfl : b7 = true := h7.symm.trans hb97; obtain rfl : b8 = false := h8.symm.trans hb98; exact ⟨FJ94, ur6_0, v8, ur9_0, g10, he94_1, rfl, he94_6, he94_7, leJ94, hS8.pick [1, 2, 0, 3] (by decide)⟩)
      ·
       rcases Bool.eq_false_or_eq_true (D94 8) with hb99 | hb99
       ·
        exact False.elim (hJ94 true false true false true hb95 hD94 hb96 hb97 hb99)
       ·
        obtain ⟨FJ94, ur6_0, ur9_0, he94_1, he94_6, leJ94, hSJ94⟩ := (hJ94 true false true false false hb95 hD94 hb96 hb97 hb99)
        refine W_mk (t := tI) (x0 := 0) rfl Go.Proofs.Try.underlying22 Ty.row3 rfl rfl rfl rfl hSJ94 rfl hl7 ?_
        intro v8 w8 hS8
        refine W_nil ?_
        exact N_stepJ rfl (fun u (hu : (none : Option Value) = some u) => by cases hu) (fun b1 b4 b6 b7 b8 h1 h4 h6 h7 h8 => by obtain rfl : b1 = true := h1.symm.trans hb95; obtain rfl : b4 = true := h4.symm; obtain rfl : b6 = true := h6.symm.trans hb96; obtain rfl : b7 = false := h7.symm.trans hb97; obtain rfl : b8 = false := h8.symm.trans hb99; exact ⟨FJ94, ur6_0, v8, ur9_0, he94_1, rfl, he94_6, leJ94, hS8.pick [1, 0, 2] (by decide)⟩)
     ·
      rcases Bool.eq_false_or_eq_true (D94 7) with hb100 | hb100
      ·
       rcases Bool.eq_false_or_eq_true (D94 8) with hb101 | hb101
       ·
        exact False.elim (hJ94 true false false true true hb95 hD94 hb96 hb100 hb101)
       ·
        obtain ⟨FJ94, ur6_0, g10, he94_1, he94_7, leJ94, hSJ94⟩ := (hJ94 true false false true false hb95 hD94 hb96 hb100 hb101)
        refine W_mk (t := tI) (x0 := 0) rfl Go.Proofs.Try.underlying22 Ty.row3 rfl rfl rfl rfl hSJ94 rfl hl7 ?_
        intro v8 w8 hS8
        refine W_nil ?_
        exact N_stepJ rfl (fun u (hu : (none : Option Value) = some u) => by cases hu) (fun b1 b4 b6 b7 b8 h1 h4 h6 h7 h8 => by obtain rfl : b1 = true := h1.symm.trans hb95; obtain rfl : b4 = true := h4.symm; obtain rfl : b6 = false := h6.symm.trans hb96; obtain rfl : b7 = true := h7.symm.trans hb100; obtain rfl : b8 = false := h8.symm.trans hb101; exact ⟨FJ94, ur6_0, v8, g10, he94_1, rfl, he94_7, leJ94, hS8.pick [1, 0, 2] (by decide)⟩)
      ·
       rcases Bool.eq_false_or_eq_true (D94 8) with hb102 | hb102
       ·
        exact False.elim (hJ94 true false false false true hb95 hD94 hb96 hb100 hb102)
       ·
        obtain ⟨FJ94, ur6_0, he94_1, leJ94, hSJ94⟩ := (hJ94 true false false false false hb95 hD94 hb96 hb100 hb102)
        refine W_mk (t := tI) (x0 := 0) rfl Go.Proofs.Try.underlying22 Ty.row3 rfl rfl rfl rfl hSJ94 rfl hl7 ?_
        intro v8 w8 hS8
        refine W_nil ?_
        exact N_stepJ rfl (fun u (hu : (none : Option Value) = some u) => by cases hu) (fun b1 b4 b6 b7 b8 h1 h4 h6 h7 h8 => by obtain rfl : b1 = true := h1.symm.trans hb95; obtain rfl : b4 = true := h4.symm; obtain rfl : b6 = false := h6.symm.trans hb96; obtain rfl : b7 = false := h7.symm.trans hb100; obtain rfl : b8 = false := h8.symm.trans hb102; exact ⟨FJ94, ur6_0, v8, he94_1, rfl, leJ94, hS8⟩)
    ·
     rcases Bool.eq_false_or_eq_true (D94 6) with hb103 | hb103
     ·
      rcases Bool.eq_false_or_eq_true (D94 7) with hb104 | hb104
      ·
       rcases Bool.eq_false_or_eq_true (D94 8) with hb105 | hb105
       ·
        exact False.elim (hJ94 false false true true true hb95 hD94 hb103 hb104 hb105)
       ·
        exact False.elim (hJ94 false false true true false hb95 hD94 hb103 hb104 hb105)
      ·
       rcases Bool.eq_false_or_eq_true (D94 8) with hb106 | hb106
       ·
        exact False.elim (hJ94 false false true false true hb95 hD94 hb103 hb104 hb106)
       ·
        exact False.elim (hJ94 false false true false false hb95 hD94 hb103 hb104 hb106)
     ·
      rcases Bool.eq_false_or_eq_true (D94 7) with hb107 | hb107
      ·
       rcases Bool.eq_false_or_eq_true (D94 8) with hb108 | hb108
       ·
        exact False.elim (hJ94 false false false true true hb95 hD94 hb103 hb107 hb108)
       ·
        obtain ⟨FJ94, g10, he94_7, leJ94, hSJ94⟩ := (hJ94 false false false true false hb95 hD94 hb103 hb107 hb108)
        refine W_mk (t := tI) (x0 := 0) rfl Go.Proofs.Try.underlying22 Ty.row3 rfl rfl rfl rfl hSJ94 rfl hl7 ?_
        intro v8 w8 hS8
        refine W_nil ?_
        exact N_stepJ rfl (fun u (hu : (none : Option Value) = some u) => by cases hu) (fun b1 b4 b6 b7 b8 h1 h4 h6 h7 h8 => by obtain rfl : b1 = false := h1.symm.trans hb95; obtain rfl : b4 = true := h4.symm; obtain rfl : b6 = false := h6.symm.trans hb103; obtain rfl : b7 = true := h7.symm.trans hb107; obtain rfl : b8 = false := h8.symm.trans hb108; exact ⟨FJ94, v8, g10, rfl, he94_7, leJ94, hS8.pick [1, 0] (by decide)⟩)
      ·
       rcases Bool.eq_false_or_eq_true (D94 8) with hb109 | hb109
       ·
        exact False.elim (hJ94 false false false false true hb95 hD94 hb103 hb107 hb109)
       ·
        obtain ⟨FJ94, leJ94, hSJ94⟩ := (hJ94 false false false false false hb95 hD94 hb103 hb107 hb109)
        refine W_mk (t := tI) (x0 := 0) rfl Go.Proofs.Try.underlying22 Ty.row3 rfl rfl rfl rfl hSJ94 rfl hl7 ?_
        intro v8 w8 hS8
        refine W_nil ?_
        exact N_stepJ rfl (fun u (hu : (none : Option Value) = some u) => by cases hu) (fun b1 b4 b6 b7 b8 h1 h4 h6 h7 h8 => by obtain rfl : b1 = false := h1.symm.trans hb95; obtain rfl : b4 = true := h4.symm; obtain rfl : b6 = false := h6.symm.trans hb103; obtain rfl : b7 = false := h7.symm.trans hb107; obtain rfl : b8 = false := h8.symm.trans hb109; exact ⟨FJ94, v8, rfl, leJ94, hS8⟩)
   ·
    intro w110 vq110 D110 hD110 hd110 hJ110
    refine W_move rfl rfl ?_
    refine W_nil ?_
    exact N_stepJ rfl (fun u hu => Option.some.inj hu) hJ110
   ·
    intro w111 vq111 D111 hD111 hd111 hJ111
    rcases Bool.eq_false_or_eq_true (D111 4) with hb112 | hb112
    ·
     rcases Bool.eq_false_or_eq_true (D111 7) with hb113 | hb113
     ·
      rcases Bool.eq_false_or_eq_true (D111 8) with hb114 | hb114
      ·
       exact False.elim (hJ111 true true false true true (hd111 1 (by decide)) hb112 hD111 hb113 hb114)
      ·
       obtain ⟨FJ111, ur6_0, v8, g10, he111_1, he111_4, he111_7, leJ111, hSJ111⟩ := (hJ111 true true false true false (hd111 1 (by decide)) hb112 hD111 hb113 hb114)
       refine W_eqv (t := 22) rfl he111_1 ?_
       refine W_call rfl Ty.named32 rfl (plan_Vols_ok hSJ111.agree (h1.mono leJ111) hr9) ?_
       rintro ur9_0 w115 ⟨Fr9, _, rfl, hT115⟩
       have hS115 := hSJ111.call hT115
       have ler9 := hT115.ext
       refine W_nil ?_
       exact N_stepJ rfl (fun u (hu : (none : Option Value) = some u) => by cases hu) (fun b1 b4 b6 b7 b8 h1 h4 h6 h7 h8 => by obtain rfl : b1 = true := h1.symm.trans (hd111 1 (by decide)); obtain rfl : b4 = true := h4.symm.trans hb112; obtain rfl : b6 = true := h6.symm; obtain rfl : b7 = true := h7.symm.trans hb113; obtain rfl : b8 = false := h8.symm.trans hb114; exact ⟨Fr9, ur6_0, v8, ur9_0, g10, he111_1, he111_4, rfl, he111_7, (leJ111.trans ler9), hS115.pick [1, 0, 2, 3] (by decide)⟩)
     ·
      rcases Bool.eq_false_or_eq_true (D111 8) with hb116 | hb116
      ·
       exact False.elim (hJ111 true true false false true (hd111 1 (by decide)) hb112 hD111 hb113 hb116)
      ·
       obtain ⟨FJ111, ur6_0, v8, he111_1, he111_4, leJ111, hSJ111⟩ := (hJ111 true true false false false (hd111 1 (by decide)) hb112 hD111 hb113 hb116)
       refine W_eqv (t := 22) rfl he111_1 ?_
       refine W_call rfl Ty.named32 rfl (plan_Vols_ok hSJ111.agree (h1.mono leJ111) hr9) ?_
       rintro ur9_0 w117 ⟨Fr9, _, rfl, hT117⟩
       have hS117 := hSJ111.call hT117
       have ler9 := hT117.ext
       refine W_nil ?_
       exact N_stepJ rfl (fun u (hu : (none : Option Value) = some u) => by cases hu) (fun b1 b4 b6 b7 b8 h1 h4 h6 h7 h8 => by obtain rfl : b1 = true := h1.symm.trans (hd111 1 (by decide)); obtain rfl : b4 = true := h4.symm.trans hb112; obtain rfl : b6 = true := h6.symm; obtain rfl : b7 = false := h7.symm.trans hb113; obtain rfl : b8 = false := h8.symm.trans hb116; exact ⟨Fr9, ur6_0, v8, ur9_0, he111_1, he111_4, rfl, (leJ111.trans ler9), hS117⟩)
    ·
     rcases Bool.eq_false_or_eq_true (D111 7) with hb118 | hb118
     ·
      rcases Bool.eq_false_or_eq_true (D111 8) with hb119 | hb119
      ·
       exact False.elim (hJ111 true false false true true (hd111 1 (by decide)) hb112 hD111 hb118 hb119)
      ·
       obtain ⟨FJ111, ur6_0, g10, he111_1, he111_7, leJ111, hSJ111⟩ := (hJ111 true false false true false (hd111 1 (by decide)) hb112 hD111 hb118 hb119)
       refine W_eqv (t := 22) rfl he111_1 ?_
       refine W_call rfl Ty.named32 rfl (plan_Vols_ok hSJ111.agree (h1.mono leJ111) hr9) ?_
       rintro ur9_0 w120 ⟨Fr9, _, rfl, hT120⟩
       have hS120 := hSJ111.call hT120
       have ler9 := hT120.ext
       refine W_nil ?_
       exact N_stepJ rfl (fun u (hu : (none : Option Value) = some u) => by cases hu) (fun b1 b4 b6 b7 b8 h1 h4 h6 h7 h8 => by obtain rfl : b1 = true := h1.symm.trans (hd111 1 (by decide)); obtain rfl : b4 = false := h4.symm.trans hb112; obtain rfl : b6 = true := h6.symm; obtain rfl : b7 = true := h7.symm.trans hb118; obtain rfl : b8 = false := h8.symm.trans hb119; exact ⟨Fr9, ur6_0, ur9_0, g10, he111_1, rfl, he111_7, (leJ111.trans ler9), hS120.pick [1, 0, 2] (by decide)⟩)
     ·
      rcases Bool.eq_false_or_eq_true (D111 8) with hb121 | hb121
      ·
       exact False.elim (hJ111 true false false false true (hd111 1 (by decide)) hb112 hD111 hb118 hb121)
      ·
       obtain ⟨FJ111, ur6_0, he111_1, leJ111, hSJ111⟩ := (hJ111 true false false false false (hd111 1 (by decide)) hb112 hD111 hb118 hb121)
       refine W_eqv (t := 22) rfl he111_1 ?_
       refine W_call rfl Ty.named32 rfl (plan_Vols_ok hSJ111.agree (h1.mono leJ111) hr9) ?_
       rintro ur9_0 w122 ⟨Fr9, _, rfl, hT122⟩
       have hS122 := hSJ111.call hT122
       have ler9 := hT122.ext
       refine W_nil ?_
       exact N_stepJ rfl (fun u (hu : (none : Option Value) = some u) => by cases hu) (fun b1 b4 b6 b7 b8 h1 h4 h6 h7 h8 => by obtain rfl : b1 = true := h1.symm.trans (hd111 1 (by decide)); obtain rfl : b4 = false := h4.symm.trans hb112; obtain rfl : b6 = true := h6.symm; obtain rfl : b7 = false := h7.symm.trans hb118; obtain rfl : b8 = false := h8.symm.trans hb121; exact ⟨Fr9, ur6_0, ur9_0, he111_1, rfl, (leJ111.trans ler9), hS122⟩)
   ·
    intro w123 vq123 D123 hD123 hd123 hJ123
    rcases Bool.eq_false_or_eq_true (D123 1) with hb124 | hb124
    ·
     rcases Bool.eq_false_or_eq_true (D123 4) with hb125 | hb125
     ·
      rcases Bool.eq_false_or_eq_true (D123 6) with hb126 | hb126
      ·
       rcases Bool.eq_false_or_eq_true (D123 8) with hb127 | hb127
       ·
        exact False.elim (hJ123 true true true false true hb124 hb125 hb126 hD123 hb127)
       ·
        obtain ⟨FJ123, ur6_0, v8, ur9_0, he123_1, he123_4, he123_6, leJ123, hSJ123⟩ := (hJ123 true true true false false hb124 hb125 hb126 hD123 hb127)
        refine W_mkmap (ktInt Go.Proofs.Try.underlying3) (tRow Read.t 39) rfl hSJ123 ?_
        intro g10 w10 hS10
        refine W_nil ?_
        exact N_stepJ rfl (fun u (hu : (none : Option Value) = some u) => by cases hu) (fun b1 b4 b6 b7 b8 h1 h4 h6 h7 h8 => by obtain rfl : b1 = true := h1.symm.trans hb124; obtain rfl : b4 = true := h4.symm.trans hb125; obtain rfl : b6 = true := h6.symm.trans hb126; obtain rfl : b7 = true := h7.symm; obtain rfl : b8 = false := h8.symm.trans hb127; exact ⟨FJ123, ur6_0, v8, ur9_0, g10, he123_1, he123_4, he123_6, rfl, leJ123, hS10⟩)
      ·
       rcases Bool.eq_false_or_eq_true (D123 8) with hb128 | hb128
       ·
        exact False.elim (hJ123 true true false false true hb124 hb125 hb126 hD123 hb128)
       ·
        obtain ⟨FJ123, ur6_0, v8, he123_1, he123_4, leJ123, hSJ123⟩ := (hJ123 true true false false false hb124 hb125 hb126 hD123 hb128)
        refine W_mkmap (ktInt Go.Proofs.Try.underlying3) (tRow Read.t 39) rfl hSJ123 ?_
        intro g10 w10 hS10
        refine W_nil ?_
        exact N_stepJ rfl (fun u (hu : (none : Option Value) = some u) => by cases hu) (fun b1 b4 b6 b7 b8 h1 h4 h6 h7 h8 => by obtain rfl : b1 = true := h1.symm.trans hb124; obtain rfl : b4 = true := h4.symm.trans hb125; obtain rfl : b6 = false := h6.symm.trans hb126; obtain rfl : b7 = true := h7.symm; obtain rfl : b8 = false := h8.symm.trans hb128; exact ⟨FJ123, ur6_0, v8, g10, he123_1, he123_4, rfl, leJ123, hS10⟩)
     ·
      rcases Bool.eq_false_or_eq_true (D123 6) with hb129 | hb129
      ·
       rcases Bool.eq_false_or_eq_true (D123 8) with hb130 | hb130
       ·
        exact False.elim (hJ123 true false true false true hb124 hb125 hb129 hD123 hb130)
       ·
        obtain ⟨FJ123, ur6_0, ur9_0, he123_1, he123_6, leJ123, hSJ123⟩ := (hJ123 true false true false false hb124 hb125 hb129 hD123 hb130)
        refine W_mkmap (ktInt Go.Proofs.Try.underlying3) (tRow Read.t 39) rfl hSJ123 ?_
        intro g10 w10 hS10
        refine W_nil ?_
        exact N_stepJ rfl (fun u (hu : (none : Option Value) = some u) => by cases hu) (fun b1 b4 b6 b7 b8 h1 h4 h6 h7 h8 => by obtain rfl : b1 = true := h1.symm.trans hb124; obtain rfl : b4 = false := h4.symm.trans hb125; obtain rfl : b6 = true := h6.symm.trans hb129; obtain rfl : b7 = true := h7.symm; obtain rfl : b8 = false := h8.symm.trans hb130; exact ⟨FJ123, ur6_0, ur9_0, g10, he123_1, he123_6, rfl, leJ123, hS10⟩)
      ·
       rcases Bool.eq_false_or_eq_true (D123 8) with hb131 | hb131
       ·
        exact False.elim (hJ123 true false false false true hb124 hb125 hb129 hD123 hb131)
       ·
        obtain ⟨FJ123, ur6_0, he123_1, leJ123, hSJ123⟩ := (hJ123 true false false false false hb124 hb125 hb129 hD123 hb131)
        refine W_mkmap (ktInt Go.Proofs.Try.underlying3) (tRow Read.t 39) rfl hSJ123 ?_
        intro g10 w10 hS10
        refine W_nil ?_
        exact N_stepJ rfl (fun u (hu : (none : Option Value) = some u) => by cases hu) (fun b1 b4 b6 b7 b8 h1 h4 h6 h7 h8 => by obtain rfl : b1 = true := h1.symm.trans hb124; obtain rfl : b4 = false := h4.symm.trans hb125; obtain rfl : b6 = false := h6.symm.trans hb129; obtain rfl : b7 = true := h7.symm; obtain rfl : b8 = false := h8.symm.trans hb131; exact ⟨FJ123, ur6_0, g10, he123_1, rfl, leJ123, hS10⟩)
    ·
     rcases Bool.eq_false_or_eq_true (D123 4) with hb132 | hb132
     ·
      rcases Bool.eq_false_or_eq_true (D123 6) with hb133 | hb133
      ·
       rcases Bool.eq_false_or_eq_true (D123 8) with hb134 | hb134
       ·
        exact False.elim (hJ123 false true true false true hb124 hb132 hb133 hD123 hb134)
       ·
        exact False.elim (hJ123 false true true false false hb124 hb132 hb133 hD123 hb134)
      ·
       rcases Bool.eq_false_or_eq_true (D123 8) with hb135 | hb135
       ·
        exact False.elim (hJ123 false true false false true hb124 hb132 hb133 hD123 hb135)
       ·
        obtain ⟨FJ123, v8, he123_4, leJ123, hSJ123⟩ := (hJ123 false true false false false hb124 hb132 hb133 hD123 hb135)
        refine W_mkmap (ktInt Go.Proofs.Try.underlying3) (tRow Read.t 39) rfl hSJ123 ?_
        intro g10 w10 hS10
        refine W_nil ?_
        exact N_stepJ rfl (fun u (hu : (none : Option Value) = some u) => by cases hu) (fun b1 b4 b6 b7 b8 h1 h4 h6 h7 h8 => by obtain rfl : b1 = false := h1.symm.trans hb124; obtain rfl : b4 = true := h4.symm.trans hb132; obtain rfl : b6 = false := h6.symm.trans hb133; obtain rfl : b7 = true := h7.symm; obtain rfl : b8 = false := h8.symm.trans hb135; exact ⟨FJ123, v8, g10, he123_4, rfl, leJ123, hS10⟩)
     ·
      rcases Bool.eq_false_or_eq_true (D123 6) with hb136 | hb136
      ·
       rcases Bool.eq_false_or_eq_true (D123 8) with hb137 | hb137
       ·
        exact False.elim (hJ123 false false true false true hb124 hb132 hb136 hD123 hb137)
       ·
        exact False.elim (hJ123 false false true false false hb124 hb132 hb136 hD123 hb137)
      ·
       rcases Bool.eq_false_or_eq_true (D123 8) with hb138 | hb138
       ·
        exact False.elim (hJ123 false false false false true hb124 hb132 hb136 hD123 hb138)
       ·
        obtain ⟨FJ123, leJ123, hSJ123⟩ := (hJ123 false false false false false hb124 hb132 hb136 hD123 hb138)
        refine W_mkmap (ktInt Go.Proofs.Try.underlying3) (tRow Read.t 39) rfl hSJ123 ?_
        intro g10 w10 hS10
        refine W_nil ?_
        exact N_stepJ rfl (fun u (hu : (none : Option Value) = some u) => by cases hu) (fun b1 b4 b6 b7 b8 h1 h4 h6 h7 h8 => by obtain rfl : b1 = false := h1.symm.trans hb124; obtain rfl : b4 = false := h4.symm.trans hb132; obtain rfl : b6 = false := h6.symm.trans hb136; obtain rfl : b7 = true := h7.symm; obtain rfl : b8 = false := h8.symm.trans hb138; exact ⟨FJ123, g10, rfl, leJ123, hS10⟩)
   ·
    intro w139 vq139 D139 hD139 hd139 hJ139
    obtain ⟨FJ139, ur6_0, v8, ur9_0, g10, he139_1, he139_4, he139_6, he139_7, leJ139, hSJ139⟩ := (hJ139 true true true true false (hd139 1 (by decide)) (hd139 4 (by decide)) (hd139 6 (by decide)) (hd139 7 (by decide)) hD139)
    refine W_eqv (t := 22) rfl he139_1 ?_
    refine W_eqv (t := 25) rfl he139_4 ?_
    refine W_eqv (t := 27) rfl he139_6 ?_
    refine W_eqv (t := 28) rfl he139_7 ?_
    obtain ⟨ao140, m140, c140, hu140⟩ := (hSJ139.rowLn (k := 3) rfl).form
    obtain ⟨ao141, m141, c141, hu141⟩ := (hSJ139.rowLn (k := 2) rfl).form
    obtain ⟨ao142, m142, c142, hu142⟩ := (hSJ139.rowLn (k := 1) rfl).form
    refine W_build (v := .agg #[ur6_0, v8, ur9_0, .map (some g10), .slice none 0 0, .int .i64 0]) rfl rfl (fun _ => by rw [hu140, hu141, hu142]; kernel_rfl) ?_
    refine W_nil ?_
    exact N_stepJ rfl (fun u (hu : (none : Option Value) = some u) => by cases hu) (fun b1 b4 b6 b7 b8 h1 h4 h6 h7 h8 => by obtain rfl : b1 = true := h1.symm.trans (hd139 1 (by decide)); obtain rfl : b4 = true := h4.symm.trans (hd139 4 (by decide)); obtain rfl : b6 = true := h6.symm.trans (hd139 6 (by decide)); obtain rfl : b7 = true := h7.symm.trans (hd139 7 (by decide)); obtain rfl : b8 = true := h8.symm; exact ⟨FJ139, ur6_0, v8, ur9_0, g10, he139_1, he139_4, he139_6, he139_7, rfl, leJ139, hSJ139⟩)
  intro w143 vq143 D143 hA143 hJ143
  obtain ⟨FJ143, ur6_0, v8, ur9_0, g10, he143_1, he143_4, he143_6, he143_7, he143_8, leJ143, hSJ143⟩ := (hJ143 true true true true true (hA143 1 (by decide)) (hA143 4 (by decide)) (hA143 6 (by decide)) (hA143 7 (by decide)) (hA143 8 (by decide)))
  refine W_eqv (t := 22) rfl he143_1 ?_
  refine W_eqv (t := 25) rfl he143_4 ?_
  refine W_eqv (t := 27) rfl he143_6 ?_
  refine W_eqv (t := 28) rfl he143_7 ?_
  refine W_eqv (t := 29) rfl he143_8 ?_
  refine W_bx (cs := [ur6_0, v8, ur9_0, .map (some g10), .slice none 0 0, .int .i64 0]) rfl rfl rfl hSJ143 ?_
  intro g11 w11 hS11
  refine W_assign rfl rfl ?_
  refine W_nil ?_
  refine N_code ?_
  refine C_seq_join (fun E wq => ∃ m145 : Int → Option (List Read), mounts_Moves.k1 r6 l7 r9 m145 = some r ∧ ∃ (F144 : Frz) (bs146 : List Nat), E = [(7, pl g11 0)] ∧ FJ143.le F144 ∧ St [] w F F144 [.box g11 70 [ur6_0, v8, ur9_0, .map (some g10), .slice none 0 0, .int .i64 0], .deep (tMap (ktInt Go.Proofs.Try.underlying3) (tRow Read.t 39) noHole) bs146 [.map (some g10)] m145, .row tI 3 ur9_0 r9, .row tI 3 v8 l7, .row tI 3 ur6_0 r6] wq) ?_ ?_
  ·
   refine C_seq ?_
   refine C_region ?_
   refine W_move rfl rfl ?_
   refine W_lenv rfl Go.Proofs.Try.underlying23 rfl h1.ln ?_
   refine W_move rfl rfl ?_
   refine W_nil ?_
   refine N_code ?_
   refine C_block ?_
   refine C_loopM (fun (s : Int × (Int → Option (List Read))) E wq => ∃ (F305 : Frz) (bs308 : List Nat), E = [(7, pl g11 0), (31, v1), (32, .int .i64 (x1.length : Int)), (33, .int .i64 s.1)] ∧ FJ143.le F305 ∧ St [] w F F305 [.box g11 70 [ur6_0, v8, ur9_0, .map (some g10), .slice none 0 0, .int .i64 0], .deep (tMap (ktInt Go.Proofs.Try.underlying3) (tRow Read.t 39) noHole) bs308 [.map (some g10)] s.2, .row tI 3 ur9_0 r9, .row tI 3 v8 l7, .row tI 3 ur6_0 r6] wq) H ?_ ?_
   ·
    exact ⟨_, ⟨FJ143, [g10], rfl, (Frz.le.refl _), hS11⟩, ⟨rfl, rfl, rfl, rfl, trivial⟩⟩
   ·
    rintro rec309 ⟨i306, m307⟩ E w305 hI H
    try dsimp only at hI
    obtain ⟨F305, bs308, rfl, le305, hS305⟩ := hI
    dsimp only [mounts_Moves.l8] at H
    refine C_seq ?_
    refine C_region ?_
    refine W_lss rfl rfl rfl ?_
    refine W_nil ?_
    refine N_code ?_
    refine C_seq ?_
    refine C_cond rfl (fun hc310 => ?_) (fun hc310 => ?_)
    ·
     rw [if_t hc310] at H
     refine C_skip ?_
     refine N_code ?_
     refine C_seq ?_
     refine C_block ?_
     refine C_seq ?_
     obtain ⟨x311, hx311, H⟩ := bd_some H
     refine C_region ?_
     obtain ⟨hp314, hy314⟩ := ix_some hx311
     obtain ⟨cs314, hr314, he314⟩ := (h1.mono (leJ143.trans le305)).at_ hy314
     obtain rfl := hr314
     replace he314 : Elf _ _ 5 _ _ := he314
     refine W_ix rfl Go.Proofs.Try.underlying23 Ty.cells39 Ty.info39 rfl rfl (he314.el hS305.agree) hp314 rfl ?_
     refine W_ldg 0 ((Read.cells x311)) rfl Ty.agg39 Ty.size39 rfl (he314.el hS305.agree) (by omega) (fun q u h => sub_at (post := []) rfl h) ?_
     refine W_alc (cs := [.int .i64 0, .int .i64 0, .int .i64 0, .int .i64 0, .int .i64 0]) rfl Ty.zero39 rfl hS305 ?_
     intro g313 w313 hS313
     refine W_bst (c := [.int .i64 x311.want, .int .i64 x311.loc.vol, .int .i64 x311.loc.file, .int .i64 x311.loc.off, .int .i64 x311.loc.len]) 0 ([.int .i64 x311.want, .int .i64 x311.loc.vol, .int .i64 x311.loc.file, .int .i64 x311.loc.off, .int .i64 x311.loc.len]) rfl rfl hS313 rfl rfl Ty.size39 (fun y hy => Read.t.one (F := F305) (x := x311) rfl y hy) (Nat.le_of_ble_eq_true rfl) rfl ?_
     intro w315 hS315
     refine W_nil ?_
     refine N_code ?_
     obtain ⟨l317, hl317, H⟩ := bd_some H
     obtain ⟨l319, hl319, H⟩ := bd_some H
     apply C_drawJ (fun D vs wz => ∀ (b14 b16 b17 : Bool), D 14 = b14 → D 16 = b16 → D 17 = b17 → match b14, b16, b17 with | false, false, false => ∃ FJ : Frz, F305.le FJ ∧ St [] w F FJ [.box g313 39 [.int .i64 x311.want, .int .i64 x311.loc.vol, .int .i64 x311.loc.file, .int .i64 x311.loc.off, .int .i64 x311.loc.len], .box g11 70 [ur6_0, v8, ur9_0, .map (some g10), .slice none 0 0, .int .i64 0], .deep (tMap (ktInt Go.Proofs.Try.underlying3) (tRow Read.t 39) noHole) bs308 [.map (some g10)] m307, .row tI 3 ur9_0 r9, .row tI 3 v8 l7, .row tI 3 ur6_0 r6] wz | true, false, false => ∃ FJ : Frz, ∃ u316 : Value, ∃ bs316 : List Nat, vs 14 = u316 ∧ F305.le FJ ∧ St [] w F FJ [.row Read.t 39 u316 l317, .box g313 39 [.int .i64 x311.want, .int .i64 x311.loc.vol, .int .i64 x311.loc.file, .int .i64 x311.loc.off, .int .i64 x311.loc.len], .box g11 70 [ur6_0, v8, ur9_0, .map (some g10), .slice none 0 0, .int .i64 0], .deep (tMap (ktInt Go.Proofs.Try.underlying3) (tRow Read.t 39) (holeAt x311.loc.vol u316)) bs316 [.map (some g10)] m307, .row tI 3 ur9_0 r9, .row tI 3 v8 l7, .row tI 3 ur6_0 r6] wz | false, true, false => ∃ FJ : Frz, ∃ u318 : Value, vs 16 = u318 ∧ F305.le FJ ∧ St [] w F FJ [.row Read.t 39 u318 [x311], .box g313 39 [.int .i64 x311.want, .int .i64 x311.loc.vol, .int .i64 x311.loc.file, .int .i64 x311.loc.off, .int .i64 x311.loc.len], .box g11 70 [ur6_0, v8, ur9_0, .map (some g10), .slice none 0 0, .int .i64 0], .deep (tMap (ktInt Go.Proofs.Try.underlying3) (tRow Read.t 39) noHole) bs308 [.map (some g10)] m307, .row tI 3 ur9_0 r9, .row tI 3 v8 l7, .row tI 3 ur6_0 r6] wz | true, true, false => ∃ FJ : Frz, ∃ u316 : Value, ∃ bs316 : List Nat, ∃ u318 : Value, vs 14 = u316 ∧ vs 16 = u318 ∧ F305.le FJ ∧ St [] w F FJ [.row Read.t 39 u318 [x311], .row Read.t 39 u316 l317, .box g313 39 [.int .i64 x311.want, .int .i64 x311.loc.vol, .int .i64 x311.loc.file, .int .i64 x311.loc.off, .int .i64 x311.loc.len], .box g11 70 [ur6_0, v8, ur9_0, .map (some g10), .slice none 0 0, .int .i64 0], .deep (tMap (ktInt Go.Proofs.Try.underlying3) (tRow Read.t 39) (holeAt x311.loc.vol u316)) bs316 [.map (some g10)] m307, .row tI 3 ur9_0 r9, .row tI 3 v8 l7, .row tI 3 ur6_0 r6] wz | true, true, true => ∃ FJ : Frz, ∃ u316 : Value, ∃ bs316 : List Nat, ∃ u318 : Value, ∃ v320 : Value, vs 14 = u316 ∧ vs 16 = u318 ∧ vs 17 = v320 ∧ F305.le FJ ∧ St [] w F FJ [.row Read.t 39 u318 [x311], .row Read.t 39 v320 l319, .box g313 39 [.int .i64 x311.want, .int .i64 x311.loc.vol, .int .i64 x311.loc.file, .int .i64 x311.loc.off, .int .i64 x311.loc.len], .box g11 70 [ur6_0, v8, ur9_0, .map (some g10), .slice none 0 0, .int .i64 0], .deep (tMap (ktInt Go.Proofs.Try.underlying3) (tRow Read.t 39) (holeAt x311.loc.vol u316)) bs316 [.map (some g10)] m307, .row tI 3 ur9_0 r9, .row tI 3 v8 l7, .row tI 3 ur6_0 r6] wz | _, _, _ => False) 18 [[], [0], [1], [2], [], [4], [5], [], [7], [8], [9], [], [11], [12], [10, 13], [], [15], [14, 16]] [some (pl g11 0), some (pl g11 0), some (pl g11 (0 + 3)), some (.map (some g10)), some (pl g313 (0 + 1)), some (pl g313 (0 + 1 + 0)), some (.int .i64 x311.loc.vol), some (pl g11 0), some (pl g11 0), some (pl g11 (0 + 3)), some (.map (some g10)), some (pl g313 (0 + 1)), some (pl g313 (0 + 1 + 0)), some (.int .i64 x311.loc.vol), none, some (.agg (Read.cells x311).toArray), none, none] Ty.mixed rfl (by kernel_rfl) (by kernel_rfl) rfl
     ·
      intro vq322 b14 b16 b17 h14 h16 h17
      obtain rfl : b14 = false := h14.symm
      obtain rfl : b16 = false := h16.symm
      obtain rfl : b17 = false := h17.symm
      exact ⟨F305, (Frz.le.refl _), (hS315.below (below_drew _))⟩
     ·
      refine ⟨?_, ?_, ?_, ?_, ?_, ?_, ?_, ?_, ?_, ?_, ?_, ?_, ?_, ?_, ?_, ?_, ?_, ?_, trivial⟩
      ·
       intro w323 vq323 D323 hD323 hd323 hJ323
       refine W_move rfl rfl ?_
       refine W_nil ?_
       exact N_stepJ rfl (fun u hu => Option.some.inj hu) hJ323
      ·
       intro w324 vq324 D324 hD324 hd324 hJ324
       rcases Bool.eq_false_or_eq_true (D324 14) with hb325 | hb325
       ·
        rcases Bool.eq_false_or_eq_true (D324 16) with hb326 | hb326
        ·
         rcases Bool.eq_false_or_eq_true (D324 17) with hb327 | hb327
         ·
          obtain ⟨FJ324, u316, bs316, u318, v320, he324_14, he324_16, he324_17, leJ324, hSJ324⟩ := (hJ324 true true true hb325 hb326 hb327)
          refine W_nil_pl rfl rfl ?_
          refine W_nil ?_
          exact N_stepJ rfl (fun u hu => Option.some.inj hu) (fun b14 b16 b17 h14 h16 h17 => by obtain rfl : b14 = true := h14.symm.trans hb325; obtain rfl : b16 = true := h16.symm.trans hb326; obtain rfl : b17 = true := h17.symm.trans hb327; exact ⟨FJ324, u316, bs316, u318, v320, he324_14, he324_16, he324_17, leJ324, hSJ324⟩)
         ·
          obtain ⟨FJ324, u316, bs316, u318, he324_14, he324_16, leJ324, hSJ324⟩ := (hJ324 true true false hb325 hb326 hb327)
          refine W_nil_pl rfl rfl ?_
          refine W_nil ?_
          exact N_stepJ rfl (fun u hu => Option.some.inj hu) (fun b14 b16 b17 h14 h16 h17 => by obtain rfl : b14 = true := h14.symm.trans hb325; obtain rfl : b16 = true := h16.symm.trans hb326; obtain rfl : b17 = false := h17.symm.trans hb327; exact ⟨FJ324, u316, bs316, u318, he324_14, he324_16, leJ324, hSJ324⟩)
        ·
         rcases Bool.eq_false_or_eq_true (D324 17) with hb328 | hb328
         ·
          exact False.elim (hJ324 true false true hb325 hb326 hb328)
         ·
          obtain ⟨FJ324, u316, bs316, he324_14, leJ324, hSJ324⟩ := (hJ324 true false false hb325 hb326 hb328)
          refine W_nil_pl rfl rfl ?_
          refine W_nil ?_
          exact N_stepJ rfl (fun u hu => Option.some.inj hu) (fun b14 b16 b17 h14 h16 h17 => by obtain rfl : b14 = true := h14.symm.trans hb325; obtain rfl : b16 = false := h16.symm.trans hb326; obtain rfl : b17 = false := h17.symm.trans hb328; exact ⟨FJ324, u316, bs316, he324_14, leJ324, hSJ324⟩)
       ·
        rcases Bool.eq_false_or_eq_true (D324 16) with hb329 | hb329
        ·
         rcases Bool.eq_false_or_eq_true (D324 17) with hb330 | hb330
         ·
          exact False.elim (hJ324 false true true hb325 hb329 hb330)
         ·
          obtain ⟨FJ324, u318, he324_16, leJ324, hSJ324⟩ := (hJ324 false true false hb325 hb329 hb330)
          refine W_nil_pl rfl rfl ?_
          refine W_nil ?_
          exact N_stepJ rfl (fun u hu => Option.some.inj hu) (fun b14 b16 b17 h14 h16 h17 => by obtain rfl : b14 = false := h14.symm.trans hb325; obtain rfl : b16 = true := h16.symm.trans hb329; obtain rfl : b17 = false := h17.symm.trans hb330; exact ⟨FJ324, u318, he324_16, leJ324, hSJ324⟩)
        ·
         rcases Bool.eq_false_or_eq_true (D324 17) with hb331 | hb331
         ·
          exact False.elim (hJ324 false false true hb325 hb329 hb331)
         ·
          obtain ⟨FJ324, leJ324, hSJ324⟩ := (hJ324 false false false hb325 hb329 hb331)
          refine W_nil_pl rfl rfl ?_
          refine W_nil ?_
          exact N_stepJ rfl (fun u hu => Option.some.inj hu) (fun b14 b16 b17 h14 h16 h17 => by obtain rfl : b14 = false := h14.symm.trans hb325; obtain rfl : b16 = false := h16.symm.trans hb329; obtain rfl : b17 = false := h17.symm.trans hb331; exact ⟨FJ324, leJ324, hSJ324⟩)
      ·
       intro w332 vq332 D332 hD332 hd332 hJ332
       rcases Bool.eq_false_or_eq_true (D332 14) with hb333 | hb333
       ·
        rcases Bool.eq_false_or_eq_true (D332 16) with hb334 | hb334
        ·
         rcases Bool.eq_false_or_eq_true (D332 17) with hb335 | hb335
         ·
          obtain ⟨FJ332, u316, bs316, u318, v320, he332_14, he332_16, he332_17, leJ332, hSJ332⟩ := (hJ332 true true true hb333 hb334 hb335)
          refine W_field_pl 3 rfl Ty.field70_3 rfl ?_
          refine W_nil ?_
          exact N_stepJ rfl (fun u hu => Option.some.inj hu) (fun b14 b16 b17 h14 h16 h17 => by obtain rfl : b14 = true := h14.symm.trans hb333; obtain rfl : b16 = true := h16.symm.trans hb334; obtain rfl : b17 = true := h17.symm.trans hb335; exact ⟨FJ332, u316, bs316, u318, v320, he332_14, he332_16, he332_17, leJ332, hSJ332⟩)
         ·
          obtain ⟨FJ332, u316, bs316, u318, he332_14, he332_16, leJ332, hSJ332⟩ := (hJ332 true true false hb333 hb334 hb335)
          refine W_field_pl 3 rfl Ty.field70_3 rfl ?_
          refine W_nil ?_
          exact N_stepJ rfl (fun u hu => Option.some.inj hu) (fun b14 b16 b17 h14 h16 h17 => by obtain rfl : b14 = true := h14.symm.trans hb333; obtain rfl : b16 = true := h16.symm.trans hb334; obtain rfl : b17 = false := h17.symm.trans hb335; exact ⟨FJ332, u316, bs316, u318, he332_14, he332_16, leJ332, hSJ332⟩)
        ·
         rcases Bool.eq_false_or_eq_true (D332 17) with hb336 | hb336
         ·
          exact False.elim (hJ332 true false true hb333 hb334 hb336)
         ·
          obtain ⟨FJ332, u316, bs316, he332_14, leJ332, hSJ332⟩ := (hJ332 true false false hb333 hb334 hb336)
          refine W_field_pl 3 rfl Ty.field70_3 rfl ?_
          refine W_nil ?_
          exact N_stepJ rfl (fun u hu => Option.some.inj hu) (fun b14 b16 b17 h14 h16 h17 => by obtain rfl : b14 = true := h14.symm.trans hb333; obtain rfl : b16 = false := h16.symm.trans hb334; obtain rfl : b17 = false := h17.symm.trans hb336; exact ⟨FJ332, u316, bs316, he332_14, leJ332, hSJ332⟩)
       ·
        rcases Bool.eq_false_or_eq_true (D332 16) with hb337 | hb337
        ·
         rcases Bool.eq_false_or_eq_true (D332 17) with hb338 | hb338
         ·
          exact False.elim (hJ332 false true true hb333 hb337 hb338)
         ·
          obtain ⟨FJ332, u318, he332_16, leJ332, hSJ332⟩ := (hJ332 false true false hb333 hb337 hb338)
          refine W_field_pl 3 rfl Ty.field70_3 rfl ?_
          refine W_nil ?_
          exact N_stepJ rfl (fun u hu => Option.some.inj hu) (fun b14 b16 b17 h14 h16 h17 => by obtain rfl : b14 = false := h14.symm.trans hb333; obtain rfl : b16 = true := h16.symm.trans hb337; obtain rfl : b17 = false := h17.symm.trans hb338; exact ⟨FJ332, u318, he332_16, leJ332, hSJ332⟩)
        ·
         rcases Bool.eq_false_or_eq_true (D332 17) with hb339 | hb339
         ·
          exact False.elim (hJ332 false false true hb333 hb337 hb339)
         ·
          obtain ⟨FJ332, leJ332, hSJ332⟩ := (hJ332 false false false hb333 hb337 hb339)
          refine W_field_pl 3 rfl Ty.field70_3 rfl ?_
          refine W_nil ?_
          exact N_stepJ rfl (fun u hu => Option.some.inj hu) (fun b14 b16 b17 h14 h16 h17 => by obtain rfl : b14 = false := h14.symm.trans hb333; obtain rfl : b16 = false := h16.symm.trans hb337; obtain rfl : b17 = false := h17.symm.trans hb339; exact ⟨FJ332, leJ332, hSJ332⟩)
      ·
       intro w340 vq340 D340 hD340 hd340 hJ340
       rcases Bool.eq_false_or_eq_true (D340 14) with hb341 | hb341
       ·
        rcases Bool.eq_false_or_eq_true (D340 16) with hb342 | hb342
        ·
         rcases Bool.eq_false_or_eq_true (D340 17) with hb343 | hb343
         ·
          obtain ⟨FJ340, u316, bs316, u318, v320, he340_14, he340_16, he340_17, leJ340, hSJ340⟩ := (hJ340 true true true hb341 hb342 hb343)
          refine W_bld1 3 rfl Ty.cell68 rfl hSJ340 rfl rfl ?_
          refine W_nil ?_
          exact N_stepJ rfl (fun u hu => Option.some.inj hu) (fun b14 b16 b17 h14 h16 h17 => by obtain rfl : b14 = true := h14.symm.trans hb341; obtain rfl : b16 = true := h16.symm.trans hb342; obtain rfl : b17 = true := h17.symm.trans hb343; exact ⟨FJ340, u316, bs316, u318, v320, he340_14, he340_16, he340_17, leJ340, hSJ340⟩)
         ·
          obtain ⟨FJ340, u316, bs316, u318, he340_14, he340_16, leJ340, hSJ340⟩ := (hJ340 true true false hb341 hb342 hb343)
          refine W_bld1 3 rfl Ty.cell68 rfl hSJ340 rfl rfl ?_
          refine W_nil ?_
          exact N_stepJ rfl (fun u hu => Option.some.inj hu) (fun b14 b16 b17 h14 h16 h17 => by obtain rfl : b14 = true := h14.symm.trans hb341; obtain rfl : b16 = true := h16.symm.trans hb342; obtain rfl : b17 = false := h17.symm.trans hb343; exact ⟨FJ340, u316, bs316, u318, he340_14, he340_16, leJ340, hSJ340⟩)
        ·
         rcases Bool.eq_false_or_eq_true (D340 17) with hb344 | hb344
         ·
          exact False.elim (hJ340 true false true hb341 hb342 hb344)
         ·
          obtain ⟨FJ340, u316, bs316, he340_14, leJ340, hSJ340⟩ := (hJ340 true false false hb341 hb342 hb344)
          refine W_bld1 2 rfl Ty.cell68 rfl hSJ340 rfl rfl ?_
          refine W_nil ?_
          exact N_stepJ rfl (fun u hu => Option.some.inj hu) (fun b14 b16 b17 h14 h16 h17 => by obtain rfl : b14 = true := h14.symm.trans hb341; obtain rfl : b16 = false := h16.symm.trans hb342; obtain rfl : b17 = false := h17.symm.trans hb344; exact ⟨FJ340, u316, bs316, he340_14, leJ340, hSJ340⟩)
       ·
        rcases Bool.eq_false_or_eq_true (D340 16) with hb345 | hb345
        ·
         rcases Bool.eq_false_or_eq_true (D340 17) with hb346 | hb346
         ·
          exact False.elim (hJ340 false true true hb341 hb345 hb346)
         ·
          obtain ⟨FJ340, u318, he340_16, leJ340, hSJ340⟩ := (hJ340 false true false hb341 hb345 hb346)
          refine W_bld1 2 rfl Ty.cell68 rfl hSJ340 rfl rfl ?_
          refine W_nil ?_
          exact N_stepJ rfl (fun u hu => Option.some.inj hu) (fun b14 b16 b17 h14 h16 h17 => by obtain rfl : b14 = false := h14.symm.trans hb341; obtain rfl : b16 = true := h16.symm.trans hb345; obtain rfl : b17 = false := h17.symm.trans hb346; exact ⟨FJ340, u318, he340_16, leJ340, hSJ340⟩)
        ·
         rcases Bool.eq_false_or_eq_true (D340 17) with hb347 | hb347
         ·
          exact False.elim (hJ340 false false true hb341 hb345 hb347)
         ·
          obtain ⟨FJ340, leJ340, hSJ340⟩ := (hJ340 false false false hb341 hb345 hb347)
          refine W_bld1 1 rfl Ty.cell68 rfl hSJ340 rfl rfl ?_
          refine W_nil ?_
          exact N_stepJ rfl (fun u hu => Option.some.inj hu) (fun b14 b16 b17 h14 h16 h17 => by obtain rfl : b14 = false := h14.symm.trans hb341; obtain rfl : b16 = false := h16.symm.trans hb345; obtain rfl : b17 = false := h17.symm.trans hb347; exact ⟨FJ340, leJ340, hSJ340⟩)
      ·
       intro w348 vq348 D348 hD348 hd348 hJ348
       rcases Bool.eq_false_or_eq_true (D348 14) with hb349 | hb349
       ·
        rcases Bool.eq_false_or_eq_true (D348 16) with hb350 | hb350
        ·
         rcases Bool.eq_false_or_eq_true (D348 17) with hb351 | hb351
         ·
          obtain ⟨FJ348, u316, bs316, u318, v320, he348_14, he348_16, he348_17, leJ348, hSJ348⟩ := (hJ348 true true true hb349 hb350 hb351)
          refine W_field_pl 1 rfl Ty.field39_1 rfl ?_
          refine W_nil ?_
          exact N_stepJ rfl (fun u hu => Option.some.inj hu) (fun b14 b16 b17 h14 h16 h17 => by obtain rfl : b14 = true := h14.symm.trans hb349; obtain rfl : b16 = true := h16.symm.trans hb350; obtain rfl : b17 = true := h17.symm.trans hb351; exact ⟨FJ348, u316, bs316, u318, v320, he348_14, he348_16, he348_17, leJ348, hSJ348⟩)
         ·
          obtain ⟨FJ348, u316, bs316, u318, he348_14, he348_16, leJ348, hSJ348⟩ := (hJ348 true true false hb349 hb350 hb351)
          refine W_field_pl 1 rfl Ty.field39_1 rfl ?_
          refine W_nil ?_
          exact N_stepJ rfl (fun u hu => Option.some.inj hu) (fun b14 b16 b17 h14 h16 h17 => by obtain rfl : b14 = true := h14.symm.trans hb349; obtain rfl : b16 = true := h16.symm.trans hb350; obtain rfl : b17 = false := h17.symm.trans hb351; exact ⟨FJ348, u316, bs316, u318, he348_14, he348_16, leJ348, hSJ348⟩)
        ·
         rcases Bool.eq_false_or_eq_true (D348 17) with hb352 | hb352
         ·
          exact False.elim (hJ348 true false true hb349 hb350 hb352)
         ·
          obtain ⟨FJ348, u316, bs316, he348_14, leJ348, hSJ348⟩ := (hJ348 true false false hb349 hb350 hb352)
          refine W_field_pl 1 rfl Ty.field39_1 rfl ?_
          refine W_nil ?_
          exact N_stepJ rfl (fun u hu => Option.some.inj hu) (fun b14 b16 b17 h14 h16 h17 => by obtain rfl : b14 = true := h14.symm.trans hb349; obtain rfl : b16 = false := h16.symm.trans hb350; obtain rfl : b17 = false := h17.symm.trans hb352; exact ⟨FJ348, u316, bs316, he348_14, leJ348, hSJ348⟩)
       ·
        rcases Bool.eq_false_or_eq_true (D348 16) with hb353 | hb353
        ·
         rcases Bool.eq_false_or_eq_true (D348 17) with hb354 | hb354
         ·
          exact False.elim (hJ348 false true true hb349 hb353 hb354)
         ·
          obtain ⟨FJ348, u318, he348_16, leJ348, hSJ348⟩ := (hJ348 false true false hb349 hb353 hb354)
          refine W_field_pl 1 rfl Ty.field39_1 rfl ?_
          refine W_nil ?_
          exact N_stepJ rfl (fun u hu => Option.some.inj hu) (fun b14 b16 b17 h14 h16 h17 => by obtain rfl : b14 = false := h14.symm.trans hb349; obtain rfl : b16 = true := h16.symm.trans hb353; obtain rfl : b17 = false := h17.symm.trans hb354; exact ⟨FJ348, u318, he348_16, leJ348, hSJ348⟩)
        ·
         rcases Bool.eq_false_or_eq_true (D348 17) with hb355 | hb355
         ·
          exact False.elim (hJ348 false false true hb349 hb353 hb355)
         ·
          obtain ⟨FJ348, leJ348, hSJ348⟩ := (hJ348 false false false hb349 hb353 hb355)
          refine W_field_pl 1 rfl Ty.field39_1 rfl ?_
          refine W_nil ?_
          exact N_stepJ rfl (fun u hu => Option.some.inj hu) (fun b14 b16 b17 h14 h16 h17 => by obtain rfl : b14 = false := h14.symm.trans hb349; obtain rfl : b16 = false := h16.symm.trans hb353; obtain rfl : b17 = false := h17.symm.trans hb355; exact ⟨FJ348, leJ348, hSJ348⟩)
      ·
       intro w356 vq356 D356 hD356 hd356 hJ356
       rcases Bool.eq_false_or_eq_true (D356 14) with hb357 | hb357
       ·
        rcases Bool.eq_false_or_eq_true (D356 16) with hb358 | hb358
        ·
         rcases Bool.eq_false_or_eq_true (D356 17) with hb359 | hb359
         ·
          obtain ⟨FJ356, u316, bs316, u318, v320, he356_14, he356_16, he356_17, leJ356, hSJ356⟩ := (hJ356 true true true hb357 hb358 hb359)
          refine W_field_pl 0 rfl Ty.field37_0 rfl ?_
          refine W_nil ?_
          exact N_stepJ rfl (fun u hu => Option.some.inj hu) (fun b14 b16 b17 h14 h16 h17 => by obtain rfl : b14 = true := h14.symm.trans hb357; obtain rfl : b16 = true := h16.symm.trans hb358; obtain rfl : b17 = true := h17.symm.trans hb359; exact ⟨FJ356, u316, bs316, u318, v320, he356_14, he356_16, he356_17, leJ356, hSJ356⟩)
         ·
          obtain ⟨FJ356, u316, bs316, u318, he356_14, he356_16, leJ356, hSJ356⟩ := (hJ356 true true false hb357 hb358 hb359)
          refine W_field_pl 0 rfl Ty.field37_0 rfl ?_
          refine W_nil ?_
          exact N_stepJ rfl (fun u hu => Option.some.inj hu) (fun b14 b16 b17 h14 h16 h17 => by obtain rfl : b14 = true := h14.symm.trans hb357; obtain rfl : b16 = true := h16.symm.trans hb358; obtain rfl : b17 = false := h17.symm.trans hb359; exact ⟨FJ356, u316, bs316, u318, he356_14, he356_16, leJ356, hSJ356⟩)
        ·
         rcases Bool.eq_false_or_eq_true (D356 17) with hb360 | hb360
         ·
          exact False.elim (hJ356 true false true hb357 hb358 hb360)
         ·
          obtain ⟨FJ356, u316, bs316, he356_14, leJ356, hSJ356⟩ := (hJ356 true false false hb357 hb358 hb360)
          refine W_field_pl 0 rfl Ty.field37_0 rfl ?_
          refine W_nil ?_
          exact N_stepJ rfl (fun u hu => Option.some.inj hu) (fun b14 b16 b17 h14 h16 h17 => by obtain rfl : b14 = true := h14.symm.trans hb357; obtain rfl : b16 = false := h16.symm.trans hb358; obtain rfl : b17 = false := h17.symm.trans hb360; exact ⟨FJ356, u316, bs316, he356_14, leJ356, hSJ356⟩)
       ·
        rcases Bool.eq_false_or_eq_true (D356 16) with hb361 | hb361
        ·
         rcases Bool.eq_false_or_eq_true (D356 17) with hb362 | hb362
         ·
          exact False.elim (hJ356 false true true hb357 hb361 hb362)
         ·
          obtain ⟨FJ356, u318, he356_16, leJ356, hSJ356⟩ := (hJ356 false true false hb357 hb361 hb362)
          refine W_field_pl 0 rfl Ty.field37_0 rfl ?_
          refine W_nil ?_
          exact N_stepJ rfl (fun u hu => Option.some.inj hu) (fun b14 b16 b17 h14 h16 h17 => by obtain rfl : b14 = false := h14.symm.trans hb357; obtain rfl : b16 = true := h16.symm.trans hb361; obtain rfl : b17 = false := h17.symm.trans hb362; exact ⟨FJ356, u318, he356_16, leJ356, hSJ356⟩)
        ·
         rcases Bool.eq_false_or_eq_true (D356 17) with hb363 | hb363
         ·
          exact False.elim (hJ356 false false true hb357 hb361 hb363)
         ·
          obtain ⟨FJ356, leJ356, hSJ356⟩ := (hJ356 false false false hb357 hb361 hb363)
          refine W_field_pl 0 rfl Ty.field37_0 rfl ?_
          refine W_nil ?_
          exact N_stepJ rfl (fun u hu => Option.some.inj hu) (fun b14 b16 b17 h14 h16 h17 => by obtain rfl : b14 = false := h14.symm.trans hb357; obtain rfl : b16 = false := h16.symm.trans hb361; obtain rfl : b17 = false := h17.symm.trans hb363; exact ⟨FJ356, leJ356, hSJ356⟩)
      ·
       intro w364 vq364 D364 hD364 hd364 hJ364
       rcases Bool.eq_false_or_eq_true (D364 14) with hb365 | hb365
       ·
        rcases Bool.eq_false_or_eq_true (D364 16) with hb366 | hb366
        ·
         rcases Bool.eq_false_or_eq_true (D364 17) with hb367 | hb367
         ·
          obtain ⟨FJ364, u316, bs316, u318, v320, he364_14, he364_16, he364_17, leJ364, hSJ364⟩ := (hJ364 true true true hb365 hb366 hb367)
          refine W_bld1 2 rfl Ty.cell3 rfl hSJ364 rfl rfl ?_
          refine W_nil ?_
          exact N_stepJ rfl (fun u hu => Option.some.inj hu) (fun b14 b16 b17 h14 h16 h17 => by obtain rfl : b14 = true := h14.symm.trans hb365; obtain rfl : b16 = true := h16.symm.trans hb366; obtain rfl : b17 = true := h17.symm.trans hb367; exact ⟨FJ364, u316, bs316, u318, v320, he364_14, he364_16, he364_17, leJ364, hSJ364⟩)
         ·
          obtain ⟨FJ364, u316, bs316, u318, he364_14, he364_16, leJ364, hSJ364⟩ := (hJ364 true true false hb365 hb366 hb367)
          refine W_bld1 2 rfl Ty.cell3 rfl hSJ364 rfl rfl ?_
          refine W_nil ?_
          exact N_stepJ rfl (fun u hu => Option.some.inj hu) (fun b14 b16 b17 h14 h16 h17 => by obtain rfl : b14 = true := h14.symm.trans hb365; obtain rfl : b16 = true := h16.symm.trans hb366; obtain rfl : b17 = false := h17.symm.trans hb367; exact ⟨FJ364, u316, bs316, u318, he364_14, he364_16, leJ364, hSJ364⟩)
        ·
         rcases Bool.eq_false_or_eq_true (D364 17) with hb368 | hb368
         ·
          exact False.elim (hJ364 true false true hb365 hb366 hb368)
         ·
          obtain ⟨FJ364, u316, bs316, he364_14, leJ364, hSJ364⟩ := (hJ364 true false false hb365 hb366 hb368)
          refine W_bld1 1 rfl Ty.cell3 rfl hSJ364 rfl rfl ?_
          refine W_nil ?_
          exact N_stepJ rfl (fun u hu => Option.some.inj hu) (fun b14 b16 b17 h14 h16 h17 => by obtain rfl : b14 = true := h14.symm.trans hb365; obtain rfl : b16 = false := h16.symm.trans hb366; obtain rfl : b17 = false := h17.symm.trans hb368; exact ⟨FJ364, u316, bs316, he364_14, leJ364, hSJ364⟩)
       ·
        rcases Bool.eq_false_or_eq_true (D364 16) with hb369 | hb369
        ·
         rcases Bool.eq_false_or_eq_true (D364 17) with hb370 | hb370
         ·
          exact False.elim (hJ364 false true true hb365 hb369 hb370)
         ·
          obtain ⟨FJ364, u318, he364_16, leJ364, hSJ364⟩ := (hJ364 false true false hb365 hb369 hb370)
          refine W_bld1 1 rfl Ty.cell3 rfl hSJ364 rfl rfl ?_
          refine W_nil ?_
          exact N_stepJ rfl (fun u hu => Option.some.inj hu) (fun b14 b16 b17 h14 h16 h17 => by obtain rfl : b14 = false := h14.symm.trans hb365; obtain rfl : b16 = true := h16.symm.trans hb369; obtain rfl : b17 = false := h17.symm.trans hb370; exact ⟨FJ364, u318, he364_16, leJ364, hSJ364⟩)
        ·
         rcases Bool.eq_false_or_eq_true (D364 17) with hb371 | hb371
         ·
          exact False.elim (hJ364 false false true hb365 hb369 hb371)
         ·
          obtain ⟨FJ364, leJ364, hSJ364⟩ := (hJ364 false false false hb365 hb369 hb371)
          refine W_bld1 0 rfl Ty.cell3 rfl hSJ364 rfl rfl ?_
          refine W_nil ?_
          exact N_stepJ rfl (fun u hu => Option.some.inj hu) (fun b14 b16 b17 h14 h16 h17 => by obtain rfl : b14 = false := h14.symm.trans hb365; obtain rfl : b16 = false := h16.symm.trans hb369; obtain rfl : b17 = false := h17.symm.trans hb371; exact ⟨FJ364, leJ364, hSJ364⟩)
      ·
       intro w372 vq372 D372 hD372 hd372 hJ372
       refine W_move rfl rfl ?_
       refine W_nil ?_
       exact N_stepJ rfl (fun u hu => Option.some.inj hu) hJ372
      ·
       intro w373 vq373 D373 hD373 hd373 hJ373
       rcases Bool.eq_false_or_eq_true (D373 14) with hb374 | hb374
       ·
        rcases Bool.eq_false_or_eq_true (D373 16) with hb375 | hb375
        ·
         rcases Bool.eq_false_or_eq_true (D373 17) with hb376 | hb376
         ·
          obtain ⟨FJ373, u316, bs316, u318, v320, he373_14, he373_16, he373_17, leJ373, hSJ373⟩ := (hJ373 true true true hb374 hb375 hb376)
          refine W_nil_pl rfl rfl ?_
          refine W_nil ?_
          exact N_stepJ rfl (fun u hu => Option.some.inj hu) (fun b14 b16 b17 h14 h16 h17 => by obtain rfl : b14 = true := h14.symm.trans hb374; obtain rfl : b16 = true := h16.symm.trans hb375; obtain rfl : b17 = true := h17.symm.trans hb376; exact ⟨FJ373, u316, bs316, u318, v320, he373_14, he373_16, he373_17, leJ373, hSJ373⟩)
         ·
          obtain ⟨FJ373, u316, bs316, u318, he373_14, he373_16, leJ373, hSJ373⟩ := (hJ373 true true false hb374 hb375 hb376)
          refine W_nil_pl rfl rfl ?_
          refine W_nil ?_
          exact N_stepJ rfl (fun u hu => Option.some.inj hu) (fun b14 b16 b17 h14 h16 h17 => by obtain rfl : b14 = true := h14.symm.trans hb374; obtain rfl : b16 = true := h16.symm.trans hb375; obtain rfl : b17 = false := h17.symm.trans hb376; exact ⟨FJ373, u316, bs316, u318, he373_14, he373_16, leJ373, hSJ373⟩)
        ·
         rcases Bool.eq_false_or_eq_true (D373 17) with hb377 | hb377
         ·
          exact False.elim (hJ373 true false true hb374 hb375 hb377)
         ·
          obtain ⟨FJ373, u316, bs316, he373_14, leJ373, hSJ373⟩ := (hJ373 true false false hb374 hb375 hb377)
          refine W_nil_pl rfl rfl ?_
          refine W_nil ?_
          exact N_stepJ rfl (fun u hu => Option.some.inj hu) (fun b14 b16 b17 h14 h16 h17 => by obtain rfl : b14 = true := h14.symm.trans hb374; obtain rfl : b16 = false := h16.symm.trans hb375; obtain rfl : b17 = false := h17.symm.trans hb377; exact ⟨FJ373, u316, bs316, he373_14, leJ373, hSJ373⟩)
       ·
        rcases Bool.eq_false_or_eq_true (D373 16) with hb378 | hb378
        ·
         rcases Bool.eq_false_or_eq_true (D373 17) with hb379 | hb379
         ·
          exact False.elim (hJ373 false true true hb374 hb378 hb379)
         ·
          obtain ⟨FJ373, u318, he373_16, leJ373, hSJ373⟩ := (hJ373 false true false hb374 hb378 hb379)
          refine W_nil_pl rfl rfl ?_
          refine W_nil ?_
          exact N_stepJ rfl (fun u hu => Option.some.inj hu) (fun b14 b16 b17 h14 h16 h17 => by obtain rfl : b14 = false := h14.symm.trans hb374; obtain rfl : b16 = true := h16.symm.trans hb378; obtain rfl : b17 = false := h17.symm.trans hb379; exact ⟨FJ373, u318, he373_16, leJ373, hSJ373⟩)
        ·
         rcases Bool.eq_false_or_eq_true (D373 17) with hb380 | hb380
         ·
          exact False.elim (hJ373 false false true hb374 hb378 hb380)
         ·
          obtain ⟨FJ373, leJ373, hSJ373⟩ := (hJ373 false false false hb374 hb378 hb380)
          refine W_nil_pl rfl rfl ?_
          refine W_nil ?_
          exact N_stepJ rfl (fun u hu => Option.some.inj hu) (fun b14 b16 b17 h14 h16 h17 => by obtain rfl : b14 = false := h14.symm.trans hb374; obtain rfl : b16 = false := h16.symm.trans hb378; obtain rfl : b17 = false := h17.symm.trans hb380; exact ⟨FJ373, leJ373, hSJ373⟩)
      ·
       intro w381 vq381 D381 hD381 hd381 hJ381
       rcases Bool.eq_false_or_eq_true (D381 14) with hb382 | hb382
       ·
        rcases Bool.eq_false_or_eq_true (D381 16) with hb383 | hb383
        ·
         rcases Bool.eq_false_or_eq_true (D381 17) with hb384 | hb384
         ·
          obtain ⟨FJ381, u316, bs316, u318, v320, he381_14, he381_16, he381_17, leJ381, hSJ381⟩ := (hJ381 true true true hb382 hb383 hb384)
          refine W_field_pl 3 rfl Ty.field70_3 rfl ?_
          refine W_nil ?_
          exact N_stepJ rfl (fun u hu => Option.some.inj hu) (fun b14 b16 b17 h14 h16 h17 => by obtain rfl : b14 = true := h14.symm.trans hb382; obtain rfl : b16 = true := h16.symm.trans hb383; obtain rfl : b17 = true := h17.symm.trans hb384; exact ⟨FJ381, u316, bs316, u318, v320, he381_14, he381_16, he381_17, leJ381, hSJ381⟩)
         ·
          obtain ⟨FJ381, u316, bs316, u318, he381_14, he381_16, leJ381, hSJ381⟩ := (hJ381 true true false hb382 hb383 hb384)
          refine W_field_pl 3 rfl Ty.field70_3 rfl ?_
          refine W_nil ?_
          exact N_stepJ rfl (fun u hu => Option.some.inj hu) (fun b14 b16 b17 h14 h16 h17 => by obtain rfl : b14 = true := h14.symm.trans hb382; obtain rfl : b16 = true := h16.symm.trans hb383; obtain rfl : b17 = false := h17.symm.trans hb384; exact ⟨FJ381, u316, bs316, u318, he381_14, he381_16, leJ381, hSJ381⟩)
        ·
         rcases Bool.eq_false_or_eq_true (D381 17) with hb385 | hb385
         ·
          exact False.elim (hJ381 true false true hb382 hb383 hb385)
         ·
          obtain ⟨FJ381, u316, bs316, he381_14, leJ381, hSJ381⟩ := (hJ381 true false false hb382 hb383 hb385)
          refine W_field_pl 3 rfl Ty.field70_3 rfl ?_
          refine W_nil ?_
          exact N_stepJ rfl (fun u hu => Option.some.inj hu) (fun b14 b16 b17 h14 h16 h17 => by obtain rfl : b14 = true := h14.symm.trans hb382; obtain rfl : b16 = false := h16.symm.trans hb383; obtain rfl : b17 = false := h17.symm.trans hb385; exact ⟨FJ381, u316, bs316, he381_14, leJ381, hSJ381⟩)
       ·
        rcases Bool.eq_false_or_eq_true (D381 16) with hb386 | hb386
        ·
         rcases Bool.eq_false_or_eq_true (D381 17) with hb387 | hb387
         ·
          exact False.elim (hJ381 false true true hb382 hb386 hb387)
         ·
          obtain ⟨FJ381, u318, he381_16, leJ381, hSJ381⟩ := (hJ381 false true false hb382 hb386 hb387)
          refine W_field_pl 3 rfl Ty.field70_3 rfl ?_
          refine W_nil ?_
          exact N_stepJ rfl (fun u hu => Option.some.inj hu) (fun b14 b16 b17 h14 h16 h17 => by obtain rfl : b14 = false := h14.symm.trans hb382; obtain rfl : b16 = true := h16.symm.trans hb386; obtain rfl : b17 = false := h17.symm.trans hb387; exact ⟨FJ381, u318, he381_16, leJ381, hSJ381⟩)
        ·
         rcases Bool.eq_false_or_eq_true (D381 17) with hb388 | hb388
         ·
          exact False.elim (hJ381 false false true hb382 hb386 hb388)
         ·
          obtain ⟨FJ381, leJ381, hSJ381⟩ := (hJ381 false false false hb382 hb386 hb388)
          refine W_field_pl 3 rfl Ty.field70_3 rfl ?_
          refine W_nil ?_
          exact N_stepJ rfl (fun u hu => Option.some.inj hu) (fun b14 b16 b17 h14 h16 h17 => by obtain rfl : b14 = false := h14.symm.trans hb382; obtain rfl : b16 = false := h16.symm.trans hb386; obtain rfl : b17 = false := h17.symm.trans hb388; exact ⟨FJ381, leJ381, hSJ381⟩)
      ·
       intro w389 vq389 D389 hD389 hd389 hJ389
       rcases Bool.eq_false_or_eq_true (D389 14) with hb390 | hb390
       ·
        rcases Bool.eq_false_or_eq_true (D389 16) with hb391 | hb391
        ·
         rcases Bool.eq_false_or_eq_true (D389 17) with hb392 | hb392
         ·
          obtain ⟨FJ389, u316, bs316, u318, v320, he389_14, he389_16, he389_17, leJ389, hSJ389⟩ := (hJ389 true true true hb390 hb391 hb392)
          refine W_bld1 3 rfl Ty.cell68 rfl hSJ389 rfl rfl ?_
          refine W_nil ?_
          exact N_stepJ rfl (fun u hu => Option.some.inj hu) (fun b14 b16 b17 h14 h16 h17 => by obtain rfl : b14 = true := h14.symm.trans hb390; obtain rfl : b16 = true := h16.symm.trans hb391; obtain rfl : b17 = true := h17.symm.trans hb392; exact ⟨FJ389, u316, bs316, u318, v320, he389_14, he389_16, he389_17, leJ389, hSJ389⟩)
         ·
          obtain ⟨FJ389, u316, bs316, u318, he389_14, he389_16, leJ389, hSJ389⟩ := (hJ389 true true false hb390 hb391 hb392)
          refine W_bld1 3 rfl Ty.cell68 rfl hSJ389 rfl rfl ?_
          refine W_nil ?_
          exact N_stepJ rfl (fun u hu => Option.some.inj hu) (fun b14 b16 b17 h14 h16 h17 => by obtain rfl : b14 = true := h14.symm.trans hb390; obtain rfl : b16 = true := h16.symm.trans hb391; obtain rfl : b17 = false := h17.symm.trans hb392; exact ⟨FJ389, u316, bs316, u318, he389_14, he389_16, leJ389, hSJ389⟩)
        ·
         rcases Bool.eq_false_or_eq_true (D389 17) with hb393 | hb393
         ·
          exact False.elim (hJ389 true false true hb390 hb391 hb393)
         ·
          obtain ⟨FJ389, u316, bs316, he389_14, leJ389, hSJ389⟩ := (hJ389 true false false hb390 hb391 hb393)
          refine W_bld1 2 rfl Ty.cell68 rfl hSJ389 rfl rfl ?_
          refine W_nil ?_
          exact N_stepJ rfl (fun u hu => Option.some.inj hu) (fun b14 b16 b17 h14 h16 h17 => by obtain rfl : b14 = true := h14.symm.trans hb390; obtain rfl : b16 = false := h16.symm.trans hb391; obtain rfl : b17 = false := h17.symm.trans hb393; exact ⟨FJ389, u316, bs316, he389_14, leJ389, hSJ389⟩)
       ·
        rcases Bool.eq_false_or_eq_true (D389 16) with hb394 | hb394
        ·
         rcases Bool.eq_false_or_eq_true (D389 17) with hb395 | hb395
         ·
          exact False.elim (hJ389 false true true hb390 hb394 hb395)
         ·
          obtain ⟨FJ389, u318, he389_16, leJ389, hSJ389⟩ := (hJ389 false true false hb390 hb394 hb395)
          refine W_bld1 2 rfl Ty.cell68 rfl hSJ389 rfl rfl ?_
          refine W_nil ?_
          exact N_stepJ rfl (fun u hu => Option.some.inj hu) (fun b14 b16 b17 h14 h16 h17 => by obtain rfl : b14 = false := h14.symm.trans hb390; obtain rfl : b16 = true := h16.symm.trans hb394; obtain rfl : b17 = false := h17.symm.trans hb395; exact ⟨FJ389, u318, he389_16, leJ389, hSJ389⟩)
        ·
         rcases Bool.eq_false_or_eq_true (D389 17) with hb396 | hb396
         ·
          exact False.elim (hJ389 false false true hb390 hb394 hb396)
         ·
          obtain ⟨FJ389, leJ389, hSJ389⟩ := (hJ389 false false false hb390 hb394 hb396)
          refine W_bld1 1 rfl Ty.cell68 rfl hSJ389 rfl rfl ?_
          refine W_nil ?_
          exact N_stepJ rfl (fun u hu => Option.some.inj hu) (fun b14 b16 b17 h14 h16 h17 => by obtain rfl : b14 = false := h14.symm.trans hb390; obtain rfl : b16 = false := h16.symm.trans hb394; obtain rfl : b17 = false := h17.symm.trans hb396; exact ⟨FJ389, leJ389, hSJ389⟩)
      ·
       intro w397 vq397 D397 hD397 hd397 hJ397
       rcases Bool.eq_false_or_eq_true (D397 14) with hb398 | hb398
       ·
        rcases Bool.eq_false_or_eq_true (D397 16) with hb399 | hb399
        ·
         rcases Bool.eq_false_or_eq_true (D397 17) with hb400 | hb400
         ·
          obtain ⟨FJ397, u316, bs316, u318, v320, he397_14, he397_16, he397_17, leJ397, hSJ397⟩ := (hJ397 true true true hb398 hb399 hb400)
          refine W_field_pl 1 rfl Ty.field39_1 rfl ?_
          refine W_nil ?_
          exact N_stepJ rfl (fun u hu => Option.some.inj hu) (fun b14 b16 b17 h14 h16 h17 => by obtain rfl : b14 = true := h14.symm.trans hb398; obtain rfl : b16 = true := h16.symm.trans hb399; obtain rfl : b17 = true := h17.symm.trans hb400; exact ⟨FJ397, u316, bs316, u318, v320, he397_14, he397_16, he397_17, leJ397, hSJ397⟩)
         ·
          obtain ⟨FJ397, u316, bs316, u318, he397_14, he397_16, leJ397, hSJ397⟩ := (hJ397 true true false hb398 hb399 hb400)
          refine W_field_pl 1 rfl Ty.field39_1 rfl ?_
          refine W_nil ?_
          exact N_stepJ rfl (fun u hu => Option.some.inj hu) (fun b14 b16 b17 h14 h16 h17 => by obtain rfl : b14 = true := h14.symm.trans hb398; obtain rfl : b16 = true := h16.symm.trans hb399; obtain rfl : b17 = false := h17.symm.trans hb400; exact ⟨FJ397, u316, bs316, u318, he397_14, he397_16, leJ397, hSJ397⟩)
        ·
         rcases Bool.eq_false_or_eq_true (D397 17) with hb401 | hb401
         ·
          exact False.elim (hJ397 true false true hb398 hb399 hb401)
         ·
          obtain ⟨FJ397, u316, bs316, he397_14, leJ397, hSJ397⟩ := (hJ397 true false false hb398 hb399 hb401)
          refine W_field_pl 1 rfl Ty.field39_1 rfl ?_
          refine W_nil ?_
          exact N_stepJ rfl (fun u hu => Option.some.inj hu) (fun b14 b16 b17 h14 h16 h17 => by obtain rfl : b14 = true := h14.symm.trans hb398; obtain rfl : b16 = false := h16.symm.trans hb399; obtain rfl : b17 = false := h17.symm.trans hb401; exact ⟨FJ397, u316, bs316, he397_14, leJ397, hSJ397⟩)
       ·
        rcases Bool.eq_false_or_eq_true (D397 16) with hb402 | hb402
        ·
         rcases Bool.eq_false_or_eq_true (D397 17) with hb403 | hb403
         ·
          exact False.elim (hJ397 false true true hb398 hb402 hb403)
         ·
          obtain ⟨FJ397, u318, he397_16, leJ397, hSJ397⟩ := (hJ397 false true false hb398 hb402 hb403)
          refine W_field_pl 1 rfl Ty.field39_1 rfl ?_
          refine W_nil ?_
          exact N_stepJ rfl (fun u hu => Option.some.inj hu) (fun b14 b16 b17 h14 h16 h17 => by obtain rfl : b14 = false := h14.symm.trans hb398; obtain rfl : b16 = true := h16.symm.trans hb402; obtain rfl : b17 = false := h17.symm.trans hb403; exact ⟨FJ397, u318, he397_16, leJ397, hSJ397⟩)
        ·
         rcases Bool.eq_false_or_eq_true (D397 17) with hb404 | hb404
         ·
          exact False.elim (hJ397 false false true hb398 hb402 hb404)
         ·
          obtain ⟨FJ397, leJ397, hSJ397⟩ := (hJ397 false false false hb398 hb402 hb404)
          refine W_field_pl 1 rfl Ty.field39_1 rfl ?_
          refine W_nil ?_
          exact N_stepJ rfl (fun u hu => Option.some.inj hu) (fun b14 b16 b17 h14 h16 h17 => by obtain rfl : b14 = false := h14.symm.trans hb398; obtain rfl : b16 = false := h16.symm.trans hb402; obtain rfl : b17 = false := h17.symm.trans hb404; exact ⟨FJ397, leJ397, hSJ397⟩)
      ·
       intro w405 vq405 D405 hD405 hd405 hJ405
       rcases Bool.eq_false_or_eq_true (D405 14) with hb406 | hb406
       ·
        rcases Bool.eq_false_or_eq_true (D405 16) with hb407 | hb407
        ·
         rcases Bool.eq_false_or_eq_true (D405 17) with hb408 | hb408
         ·
          obtain ⟨FJ405, u316, bs316, u318, v320, he405_14, he405_16, he405_17, leJ405, hSJ405⟩ := (hJ405 true true true hb406 hb407 hb408)
          refine W_field_pl 0 rfl Ty.field37_0 rfl ?_
          refine W_nil ?_
          exact N_stepJ rfl (fun u hu => Option.some.inj hu) (fun b14 b16 b17 h14 h16 h17 => by obtain rfl : b14 = true := h14.symm.trans hb406; obtain rfl : b16 = true := h16.symm.trans hb407; obtain rfl : b17 = true := h17.symm.trans hb408; exact ⟨FJ405, u316, bs316, u318, v320, he405_14, he405_16, he405_17, leJ405, hSJ405⟩)
         ·
          obtain ⟨FJ405, u316, bs316, u318, he405_14, he405_16, leJ405, hSJ405⟩ := (hJ405 true true false hb406 hb407 hb408)
          refine W_field_pl 0 rfl Ty.field37_0 rfl ?_
          refine W_nil ?_
          exact N_stepJ rfl (fun u hu => Option.some.inj hu) (fun b14 b16 b17 h14 h16 h17 => by obtain rfl : b14 = true := h14.symm.trans hb406; obtain rfl : b16 = true := h16.symm.trans hb407; obtain rfl : b17 = false := h17.symm.trans hb408; exact ⟨FJ405, u316, bs316, u318, he405_14, he405_16, leJ405, hSJ405⟩)
        ·
         rcases Bool.eq_false_or_eq_true (D405 17) with hb409 | hb409
         ·
          exact False.elim (hJ405 true false true hb406 hb407 hb409)
         ·
          obtain ⟨FJ405, u316, bs316, he405_14, leJ405, hSJ405⟩ := (hJ405 true false false hb406 hb407 hb409)
          refine W_field_pl 0 rfl Ty.field37_0 rfl ?_
          refine W_nil ?_
          exact N_stepJ rfl (fun u hu => Option.some.inj hu) (fun b14 b16 b17 h14 h16 h17 => by obtain rfl : b14 = true := h14.symm.trans hb406; obtain rfl : b16 = false := h16.symm.trans hb407; obtain rfl : b17 = false := h17.symm.trans hb409; exact ⟨FJ405, u316, bs316, he405_14, leJ405, hSJ405⟩)
       ·
        rcases Bool.eq_false_or_eq_true (D405 16) with hb410 | hb410
        ·
         rcases Bool.eq_false_or_eq_true (D405 17) with hb411 | hb411
         ·
          exact False.elim (hJ405 false true true hb406 hb410 hb411)
         ·
          obtain ⟨FJ405, u318, he405_16, leJ405, hSJ405⟩ := (hJ405 false true false hb406 hb410 hb411)
          refine W_field_pl 0 rfl Ty.field37_0 rfl ?_
          refine W_nil ?_
          exact N_stepJ rfl (fun u hu => Option.some.inj hu) (fun b14 b16 b17 h14 h16 h17 => by obtain rfl : b14 = false := h14.symm.trans hb406; obtain rfl : b16 = true := h16.symm.trans hb410; obtain rfl : b17 = false := h17.symm.trans hb411; exact ⟨FJ405, u318, he405_16, leJ405, hSJ405⟩)
        ·
         rcases Bool.eq_false_or_eq_true (D405 17) with hb412 | hb412
         ·
          exact False.elim (hJ405 false false true hb406 hb410 hb412)
         ·
          obtain ⟨FJ405, leJ405, hSJ405⟩ := (hJ405 false false false hb406 hb410 hb412)
          refine W_field_pl 0 rfl Ty.field37_0 rfl ?_
          refine W_nil ?_
          exact N_stepJ rfl (fun u hu => Option.some.inj hu) (fun b14 b16 b17 h14 h16 h17 => by obtain rfl : b14 = false := h14.symm.trans hb406; obtain rfl : b16 = false := h16.symm.trans hb410; obtain rfl : b17 = false := h17.symm.trans hb412; exact ⟨FJ405, leJ405, hSJ405⟩)
      ·
       intro w413 vq413 D413 hD413 hd413 hJ413
       rcases Bool.eq_false_or_eq_true (D413 14) with hb414 | hb414
       ·
        rcases Bool.eq_false_or_eq_true (D413 16) with hb415 | hb415
        ·
         rcases Bool.eq_false_or_eq_true (D413 17) with hb416 | hb416
         ·
          obtain ⟨FJ413, u316, bs316, u318, v320, he413_14, he413_16, he413_17, leJ413, hSJ413⟩ := (hJ413 true true true hb414 hb415 hb416)
          refine W_bld1 2 rfl Ty.cell3 rfl hSJ413 rfl rfl ?_
          refine W_nil ?_
          exact N_stepJ rfl (fun u hu => Option.some.inj hu) (fun b14 b16 b17 h14 h16 h17 => by obtain rfl : b14 = true := h14.symm.trans hb414; obtain rfl : b16 = true := h16.symm.trans hb415; obtain rfl : b17 = true := h17.symm.trans hb416; exact ⟨FJ413, u316, bs316, u318, v320, he413_14, he413_16, he413_17, leJ413, hSJ413⟩)
         ·
          obtain ⟨FJ413, u316, bs316, u318, he413_14, he413_16, leJ413, hSJ413⟩ := (hJ413 true true false hb414 hb415 hb416)
          refine W_bld1 2 rfl Ty.cell3 rfl hSJ413 rfl rfl ?_
          refine W_nil ?_
          exact N_stepJ rfl (fun u hu => Option.some.inj hu) (fun b14 b16 b17 h14 h16 h17 => by obtain rfl : b14 = true := h14.symm.trans hb414; obtain rfl : b16 = true := h16.symm.trans hb415; obtain rfl : b17 = false := h17.symm.trans hb416; exact ⟨FJ413, u316, bs316, u318, he413_14, he413_16, leJ413, hSJ413⟩)
        ·
         rcases Bool.eq_false_or_eq_true (D413 17) with hb417 | hb417
         ·
          exact False.elim (hJ413 true false true hb414 hb415 hb417)
         ·
          obtain ⟨FJ413, u316, bs316, he413_14, leJ413, hSJ413⟩ := (hJ413 true false false hb414 hb415 hb417)
          refine W_bld1 1 rfl Ty.cell3 rfl hSJ413 rfl rfl ?_
          refine W_nil ?_
          exact N_stepJ rfl (fun u hu => Option.some.inj hu) (fun b14 b16 b17 h14 h16 h17 => by obtain rfl : b14 = true := h14.symm.trans hb414; obtain rfl : b16 = false := h16.symm.trans hb415; obtain rfl : b17 = false := h17.symm.trans hb417; exact ⟨FJ413, u316, bs316, he413_14, leJ413, hSJ413⟩)
       ·
        rcases Bool.eq_false_or_eq_true (D413 16) with hb418 | hb418
        ·
         rcases Bool.eq_false_or_eq_true (D413 17) with hb419 | hb419
         ·
          exact False.elim (hJ413 false true true hb414 hb418 hb419)
         ·
          obtain ⟨FJ413, u318, he413_16, leJ413, hSJ413⟩ := (hJ413 false true false hb414 hb418 hb419)
          refine W_bld1 1 rfl Ty.cell3 rfl hSJ413 rfl rfl ?_
          refine W_nil ?_
          exact N_stepJ rfl (fun u hu => Option.some.inj hu) (fun b14 b16 b17 h14 h16 h17 => by obtain rfl : b14 = false := h14.symm.trans hb414; obtain rfl : b16 = true := h16.symm.trans hb418; obtain rfl : b17 = false := h17.symm.trans hb419; exact ⟨FJ413, u318, he413_16, leJ413, hSJ413⟩)
        ·
         rcases Bool.eq_false_or_eq_true (D413 17) with hb420 | hb420
         ·
          exact False.elim (hJ413 false false true hb414 hb418 hb420)
         ·
          obtain ⟨FJ413, leJ413, hSJ413⟩ := (hJ413 false false false hb414 hb418 hb420)
          refine W_bld1 0 rfl Ty.cell3 rfl hSJ413 rfl rfl ?_
          refine W_nil ?_
          exact N_stepJ rfl (fun u hu => Option.some.inj hu) (fun b14 b16 b17 h14 h16 h17 => by obtain rfl : b14 = false := h14.symm.trans hb414; obtain rfl : b16 = false := h16.symm.trans hb418; obtain rfl : b17 = false := h17.symm.trans hb420; exact ⟨FJ413, leJ413, hSJ413⟩)
      ·
       intro w421 vq421 D421 hD421 hd421 hJ421
       rcases Bool.eq_false_or_eq_true (D421 16) with hb422 | hb422
       ·
        rcases Bool.eq_false_or_eq_true (D421 17) with hb423 | hb423
        ·
         exact False.elim (hJ421 false true true hD421 hb422 hb423)
        ·
         obtain ⟨FJ421, u318, he421_16, leJ421, hSJ421⟩ := (hJ421 false true false hD421 hb422 hb423)
         refine W_dig (a := x311.loc.vol)  3 rfl Go.Proofs.Try.underlying68 Go.Proofs.Try.zeroValue23  rfl rfl rfl trivial hSJ421 rfl ?_
         intro u316 bs316 hS316
         rw [Option.some.inj hl317] at hS316
         refine W_nil ?_
         exact N_stepJ rfl (fun u (hu : (none : Option Value) = some u) => by cases hu) (fun b14 b16 b17 h14 h16 h17 => by obtain rfl : b14 = true := h14.symm; obtain rfl : b16 = true := h16.symm.trans hb422; obtain rfl : b17 = false := h17.symm.trans hb423; exact ⟨FJ421, u316, bs316, u318, rfl, he421_16, leJ421, hS316.pick [1, 0, 2, 3, 4, 5, 6, 7] (by decide)⟩)
       ·
        rcases Bool.eq_false_or_eq_true (D421 17) with hb424 | hb424
        ·
         exact False.elim (hJ421 false false true hD421 hb422 hb424)
        ·
         obtain ⟨FJ421, leJ421, hSJ421⟩ := (hJ421 false false false hD421 hb422 hb424)
         refine W_dig (a := x311.loc.vol)  2 rfl Go.Proofs.Try.underlying68 Go.Proofs.Try.zeroValue23  rfl rfl rfl trivial hSJ421 rfl ?_
         intro u316 bs316 hS316
         rw [Option.some.inj hl317] at hS316
         refine W_nil ?_
         exact N_stepJ rfl (fun u (hu : (none : Option Value) = some u) => by cases hu) (fun b14 b16 b17 h14 h16 h17 => by obtain rfl : b14 = true := h14.symm; obtain rfl : b16 = false := h16.symm.trans hb422; obtain rfl : b17 = false := h17.symm.trans hb424; exact ⟨FJ421, u316, bs316, rfl, leJ421, hS316⟩)
      ·
       intro w425 vq425 D425 hD425 hd425 hJ425
       rcases Bool.eq_false_or_eq_true (D425 14) with hb426 | hb426
       ·
        rcases Bool.eq_false_or_eq_true (D425 16) with hb427 | hb427
        ·
         rcases Bool.eq_false_or_eq_true (D425 17) with hb428 | hb428
         ·
          obtain ⟨FJ425, u316, bs316, u318, v320, he425_14, he425_16, he425_17, leJ425, hSJ425⟩ := (hJ425 true true true hb426 hb427 hb428)
          refine W_bldg 2 ((Read.cells x311)) rfl Ty.agg39 Ty.size39 rfl hSJ425 rfl (fun q u h => sub_at (post := []) rfl h) ?_
          refine W_nil ?_
          exact N_stepJ rfl (fun u hu => Option.some.inj hu) (fun b14 b16 b17 h14 h16 h17 => by obtain rfl : b14 = true := h14.symm.trans hb426; obtain rfl : b16 = true := h16.symm.trans hb427; obtain rfl : b17 = true := h17.symm.trans hb428; exact ⟨FJ425, u316, bs316, u318, v320, he425_14, he425_16, he425_17, leJ425, hSJ425⟩)
         ·
          obtain ⟨FJ425, u316, bs316, u318, he425_14, he425_16, leJ425, hSJ425⟩ := (hJ425 true true false hb426 hb427 hb428)
          refine W_bldg 2 ((Read.cells x311)) rfl Ty.agg39 Ty.size39 rfl hSJ425 rfl (fun q u h => sub_at (post := []) rfl h) ?_
          refine W_nil ?_
          exact N_stepJ rfl (fun u hu => Option.some.inj hu) (fun b14 b16 b17 h14 h16 h17 => by obtain rfl : b14 = true := h14.symm.trans hb426; obtain rfl : b16 = true := h16.symm.trans hb427; obtain rfl : b17 = false := h17.symm.trans hb428; exact ⟨FJ425, u316, bs316, u318, he425_14, he425_16, leJ425, hSJ425⟩)
        ·
         rcases Bool.eq_false_or_eq_true (D425 17) with hb429 | hb429
         ·
          exact False.elim (hJ425 true false true hb426 hb427 hb429)
         ·
          obtain ⟨FJ425, u316, bs316, he425_14, leJ425, hSJ425⟩ := (hJ425 true false false hb426 hb427 hb429)
          refine W_bldg 1 ((Read.cells x311)) rfl Ty.agg39 Ty.size39 rfl hSJ425 rfl (fun q u h => sub_at (post := []) rfl h) ?_
          refine W_nil ?_
          exact N_stepJ rfl (fun u hu => Option.some.inj hu) (fun b14 b16 b17 h14 h16 h17 => by obtain rfl : b14 = true := h14.symm.trans hb426; obtain rfl : b16 = false := h16.symm.trans hb427; obtain rfl : b17 = false := h17.symm.trans hb429; exact ⟨FJ425, u316, bs316, he425_14, leJ425, hSJ425⟩)
       ·
        rcases Bool.eq_false_or_eq_true (D425 16) with hb430 | hb430
        ·
         rcases Bool.eq_false_or_eq_true (D425 17) with hb431 | hb431
         ·
          exact False.elim (hJ425 false true true hb426 hb430 hb431)
         ·
          obtain ⟨FJ425, u318, he425_16, leJ425, hSJ425⟩ := (hJ425 false true false hb426 hb430 hb431)
          refine W_bldg 1 ((Read.cells x311)) rfl Ty.agg39 Ty.size39 rfl hSJ425 rfl (fun q u h => sub_at (post := []) rfl h) ?_
          refine W_nil ?_
          exact N_stepJ rfl (fun u hu => Option.some.inj hu) (fun b14 b16 b17 h14 h16 h17 => by obtain rfl : b14 = false := h14.symm.trans hb426; obtain rfl : b16 = true := h16.symm.trans hb430; obtain rfl : b17 = false := h17.symm.trans hb431; exact ⟨FJ425, u318, he425_16, leJ425, hSJ425⟩)
        ·
         rcases Bool.eq_false_or_eq_true (D425 17) with hb432 | hb432
         ·
          exact False.elim (hJ425 false false true hb426 hb430 hb432)
         ·
          obtain ⟨FJ425, leJ425, hSJ425⟩ := (hJ425 false false false hb426 hb430 hb432)
          refine W_bldg 0 ((Read.cells x311)) rfl Ty.agg39 Ty.size39 rfl hSJ425 rfl (fun q u h => sub_at (post := []) rfl h) ?_
          refine W_nil ?_
          exact N_stepJ rfl (fun u hu => Option.some.inj hu) (fun b14 b16 b17 h14 h16 h17 => by obtain rfl : b14 = false := h14.symm.trans hb426; obtain rfl : b16 = false := h16.symm.trans hb430; obtain rfl : b17 = false := h17.symm.trans hb432; exact ⟨FJ425, leJ425, hSJ425⟩)
      ·
       intro w433 vq433 D433 hD433 hd433 hJ433
       rcases Bool.eq_false_or_eq_true (D433 14) with hb434 | hb434
       ·
        rcases Bool.eq_false_or_eq_true (D433 17) with hb435 | hb435
        ·
         exact False.elim (hJ433 true false true hb434 hD433 hb435)
        ·
         obtain ⟨FJ433, u316, bs316, he433_14, leJ433, hSJ433⟩ := (hJ433 true false false hb434 hD433 hb435)
         refine W_bs (t := Read.t) [(Read.cells x311)] [x311] rfl Go.Proofs.Try.underlying23 Ty.cells39 rfl rfl Ty.zero39 rfl rfl ⟨rfl, trivial⟩ rfl rfl hSJ433 ?_
         intro u318 w318 hS318
         refine W_nil ?_
         exact N_stepJ rfl (fun u (hu : (none : Option Value) = some u) => by cases hu) (fun b14 b16 b17 h14 h16 h17 => by obtain rfl : b14 = true := h14.symm.trans hb434; obtain rfl : b16 = true := h16.symm; obtain rfl : b17 = false := h17.symm.trans hb435; exact ⟨FJ433, u316, bs316, u318, he433_14, rfl, leJ433, hS318⟩)
       ·
        rcases Bool.eq_false_or_eq_true (D433 17) with hb436 | hb436
        ·
         exact False.elim (hJ433 false false true hb434 hD433 hb436)
        ·
         obtain ⟨FJ433, leJ433, hSJ433⟩ := (hJ433 false false false hb434 hD433 hb436)
         refine W_bs (t := Read.t) [(Read.cells x311)] [x311] rfl Go.Proofs.Try.underlying23 Ty.cells39 rfl rfl Ty.zero39 rfl rfl ⟨rfl, trivial⟩ rfl rfl hSJ433 ?_
         intro u318 w318 hS318
         refine W_nil ?_
         exact N_stepJ rfl (fun u (hu : (none : Option Value) = some u) => by cases hu) (fun b14 b16 b17 h14 h16 h17 => by obtain rfl : b14 = false := h14.symm.trans hb434; obtain rfl : b16 = true := h16.symm; obtain rfl : b17 = false := h17.symm.trans hb436; exact ⟨FJ433, u318, rfl, leJ433, hS318⟩)
      ·
       intro w437 vq437 D437 hD437 hd437 hJ437
       obtain ⟨FJ437, u316, bs316, u318, he437_14, he437_16, leJ437, hSJ437⟩ := (hJ437 true true false (hd437 14 (by decide)) (hd437 16 (by decide)) hD437)
       refine W_eqv (t := 51) rfl he437_14 ?_
       refine W_eqv (t := 53) rfl he437_16 ?_
       refine W_appM 1 rfl Go.Proofs.Try.underlying23 Ty.row39 rfl rfl rfl rfl rfl hSJ437 rfl (hSJ437.rowSrc (j := 0) rfl) hl319 ?_
       intro v320 w320 hS320
       refine W_nil ?_
       exact N_stepJ rfl (fun u (hu : (none : Option Value) = some u) => by cases hu) (fun b14 b16 b17 h14 h16 h17 => by obtain rfl : b14 = true := h14.symm.trans (hd437 14 (by decide)); obtain rfl : b16 = true := h16.symm.trans (hd437 16 (by decide)); obtain rfl : b17 = true := h17.symm; exact ⟨FJ437, u316, bs316, u318, v320, he437_14, he437_16, rfl, leJ437, hS320⟩)
     intro w438 vq438 D438 hA438 hJ438
     obtain ⟨FJ438, u316, bs316, u318, v320, he438_14, he438_16, he438_17, leJ438, hSJ438⟩ := (hJ438 true true true (hA438 14 (by decide)) (hA438 16 (by decide)) (hA438 17 (by decide)))
     refine W_eqv (t := 51) rfl he438_14 ?_
     refine W_eqv (t := 53) rfl he438_16 ?_
     refine W_eqv (t := 54) rfl he438_17 ?_
     refine W_fill (a := x311.loc.vol) 4 1 [0, 2, 3, 4, 5, 6, 7] Go.Proofs.Try.underlying68 rfl rfl rfl trivial rfl hSJ438 rfl rfl (by decide) (by decide) (by decide) ?_
     intro bs321 w321 hS321
     refine W_nil ?_
     refine N_block ?_
     refine N_code ?_
     refine C_region ?_
     refine W_add rfl rfl rfl rfl ?_
     refine W_move rfl rfl ?_
     refine W_nil ?_
     exact N_againM (wr (i306 + 1), (mput m307 x311.loc.vol l319)) _ H ⟨FJ438, bs321, rfl, (le305.trans leJ438), hS321.pick [2, 3, 4, 5, 6] (by decide)⟩ ⟨rfl, rfl, rfl, rfl, trivial⟩
    ·
     rw [if_f hc310] at H
     refine C_exit _ rfl ?_
     exact N_join _ ⟨m307, H, ⟨F305, bs308, rfl, le305, hS305⟩⟩ ⟨rfl, trivial⟩
  ·
   rintro E w144 ⟨m145, H, F144, bs146, rfl, le144, hS144⟩
   dsimp only [mounts_Moves.k1] at H
   refine C_seq_join (fun E wq => ∃ l148 : List Move, ∃ i151 : Int, ∃ m152 : Int → Option (List Read), ∃ l154 : List Int, ∃ l155 : List Int, ∃ l156 : List Int, mounts_Moves.k2 l148 i151 m152 l154 l155 l156 = some r ∧ ∃ (F147 : Frz) (u149 : Value) (bs153 : List Nat), E = [(7, pl g11 0)] ∧ F144.le F147 ∧ St [] w F F147 [.box g11 70 [ur6_0, v8, ur9_0, .map (some g10), u149, .int .i64 i151], .deep (tMap (ktInt Go.Proofs.Try.underlying3) (tRow Read.t 39) noHole) bs153 [.map (some g10)] m152, .row tI 3 ur9_0 l154, .row tI 3 v8 l155, .row tI 3 ur6_0 l156, .row Move.t 42 u149 l148] wq) ?_ ?_
   ·
    refine C_seq ?_
    refine C_region ?_
    refine W_move rfl rfl ?_
    refine W_nil_pl rfl rfl ?_
    refine W_field_pl 0 rfl Ty.field70_0 rfl ?_
    refine W_bld1 0 rfl Ty.cell22 rfl hS144 rfl rfl ?_
    refine W_lenv rfl Go.Proofs.Try.underlying22 rfl (hS144.rowLn (k := 4) rfl) ?_
    refine W_move rfl rfl ?_
    refine W_nil ?_
    refine N_code ?_
    refine C_block ?_
    refine C_loopM (fun (s : Int × (List Move) × Int × (Int → Option (List Read)) × (List Int) × (List Int) × (List Int)) E wq => ∃ (F274 : Frz) (u277 : Value) (bs281 : List Nat), E = [(7, pl g11 0), (59, ur6_0), (60, .int .i64 (r6.length : Int)), (61, .int .i64 s.1)] ∧ F144.le F274 ∧ St [] w F F274 [.box g11 70 [ur6_0, v8, ur9_0, .map (some g10), u277, .int .i64 s.2.2.1], .deep (tMap (ktInt Go.Proofs.Try.underlying3) (tRow Read.t 39) noHole) bs281 [.map (some g10)] s.2.2.2.1, .row tI 3 ur9_0 s.2.2.2.2.1, .row tI 3 v8 s.2.2.2.2.2.1, .row tI 3 ur6_0 s.2.2.2.2.2.2, .row Move.t 42 u277 s.2.1] wq) H ?_ ?_
    ·
     have hS304 := hS144.nilRow Move.t 42
     exact ⟨_, ⟨F144, (.slice none 0 0), bs146, rfl, (Frz.le.refl _), hS304.pick [1, 2, 3, 4, 5, 0] (by decide)⟩, ⟨rfl, rfl, rfl, rfl, trivial⟩⟩
    ·
     rintro rec285 ⟨i275, l276, i279, m280, l282, l283, l284⟩ E w274 hI H
     try dsimp only at hI
     obtain ⟨F274, u277, bs281, rfl, le274, hS274⟩ := hI
     dsimp only [mounts_Moves.l6] at H
     refine C_seq ?_
     refine C_region ?_
     refine W_lss rfl rfl rfl ?_
     refine W_nil ?_
     refine N_code ?_
     refine C_seq ?_
     refine C_cond rfl (fun hc286 => ?_) (fun hc286 => ?_)
     ·
      rw [if_t hc286] at H
      refine C_skip ?_
      refine N_code ?_
      refine C_seq_join (fun E wq => ∃ l288 : List Move, ∃ i291 : Int, ∃ m292 : Int → Option (List Read), ∃ l294 : List Int, ∃ l295 : List Int, ∃ l296 : List Int, mounts_Moves.k7 i275 rec285 l288 i291 m292 l294 l295 l296 = some r ∧ ∃ (F287 : Frz) (u289 : Value) (bs293 : List Nat), E = [(7, pl g11 0), (59, ur6_0), (60, .int .i64 (r6.length : Int)), (61, .int .i64 i275)] ∧ F274.le F287 ∧ St [] w F F287 [.box g11 70 [ur6_0, v8, ur9_0, .map (some g10), u289, .int .i64 i291], .deep (tMap (ktInt Go.Proofs.Try.underlying3) (tRow Read.t 39) noHole) bs293 [.map (some g10)] m292, .row tI 3 ur9_0 l294, .row tI 3 v8 l295, .row tI 3 ur6_0 l296, .row Move.t 42 u289 l288] wq) ?_ ?_
      ·
       refine C_block ?_
       refine C_seq ?_
       obtain ⟨x297, hx297, H⟩ := bd_some H
       refine C_region ?_
       refine W_move rfl rfl ?_
       obtain ⟨hp299, hy299⟩ := ix_some hx297
       obtain ⟨cs299, hr299, he299⟩ := hS274.rowAt (k := 4) rfl hy299
       obtain rfl := hr299
       replace he299 : El _ _ 1 _ _ := he299
       refine W_ix rfl Go.Proofs.Try.underlying22 Ty.cells3 Ty.info3 rfl rfl he299 hp299 rfl ?_
       refine W_ld1 0 rfl Ty.cell3 rfl he299 (by omega) rfl ?_
       refine W_assign rfl rfl ?_
       refine W_assign rfl rfl ?_
       refine W_nil ?_
       refine N_code ?_
       refine C_seq ?_
       refine C_region ?_
       refine W_move rfl rfl ?_
       refine W_geq rfl rfl rfl ?_
       refine W_nil ?_
       refine N_code ?_
       refine C_cond rfl (fun hc300 => ?_) (fun hc300 => ?_)
       ·
        rw [if_t hc300] at H
        obtain ⟨r301, hr301, H⟩ := bd_some H
        refine C_region ?_
        refine W_move rfl rfl ?_
        refine W_move rfl rfl ?_
        refine W_call rfl Ty.named40 rfl (mounts_walk_read_ok (x0 := (MountsWalk.mk l284 l283 l282 m280 l276 i279)) (x1 := i275) (hS274.lendL [0, 4, 3, 2, 1, 5] (by decide)) hr301) ?_
        rintro v302 w302 ⟨Fr301, bsr301_b0_3, ur301_b0_4, rfl, hT302⟩
        have hS302 := hS274.backL [0, 4, 3, 2, 1, 5] [] (by decide) (by decide) hT302
        have ler301 := hT302.ext
        refine W_nil ?_
        refine N_block ?_
        exact N_join _ ⟨r301.moves, r301.mounts, r301.left, r301.vols, r301.asked, r301.holds, H, ⟨Fr301, ur301_b0_4, bsr301_b0_3, rfl, ler301, hS302.pick [0, 4, 3, 2, 1, 5] (by decide)⟩⟩ ⟨rfl, rfl, rfl, rfl, trivial⟩
       ·
        rw [if_f hc300] at H
        refine C_skip ?_
        refine N_block ?_
        exact N_join _ ⟨l276, i279, m280, l282, l283, l284, H, ⟨F274, u277, bs281, rfl, (Frz.le.refl _), hS274⟩⟩ ⟨rfl, rfl, rfl, rfl, trivial⟩
      ·
       rintro E w287 ⟨l288, i291, m292, l294, l295, l296, H, F287, u289, bs293, rfl, le287, hS287⟩
       dsimp only [mounts_Moves.k7] at H
       refine C_region ?_
       refine W_add rfl rfl rfl rfl ?_
       refine W_move rfl rfl ?_
       refine W_nil ?_
       exact N_againM (wr (i275 + 1), l288, i291, m292, l294, l295, l296) _ H ⟨F287, u289, bs293, rfl, (le274.trans le287), hS287⟩ ⟨rfl, rfl, rfl, rfl, trivial⟩
     ·
      rw [if_f hc286] at H
      refine C_exit _ rfl ?_
      exact N_join _ ⟨l276, i279, m280, l282, l283, l284, H, ⟨F274, u277, bs281, rfl, le274, hS274⟩⟩ ⟨rfl, trivial⟩
   ·
    rintro E w147 ⟨l148, i151, m152, l154, l155, l156, H, F147, u149, bs153, rfl, le147, hS147⟩
    dsimp only [mounts_Moves.k2] at H
    refine C_seq_join (fun E wq => ∃ i158 : Int, ∃ m159 : Int → Option (List Read), ∃ l161 : List Int, ∃ l162 : List Int, ∃ l163 : List Int, ∃ l164 : List Move, mounts_Moves.k3 i158 m159 l161 l162 l163 l164 = some r ∧ ∃ (F157 : Frz) (bs160 : List Nat) (u165 : Value), E = [(7, pl g11 0)] ∧ F147.le F157 ∧ St [] w F F157 [.box g11 70 [ur6_0, v8, ur9_0, .map (some g10), u165, .int .i64 i158], .deep (tMap (ktInt Go.Proofs.Try.underlying3) (tRow Read.t 39) noHole) bs160 [.map (some g10)] m159, .row tI 3 ur9_0 l161, .row tI 3 v8 l162, .row tI 3 ur6_0 l163, .row Move.t 42 u165 l164] wq) ?_ ?_
    ·
     refine C_seq ?_
     refine C_region ?_
     refine W_move rfl rfl ?_
     refine W_nil_pl rfl rfl ?_
     refine W_field_pl 2 rfl Ty.field70_2 rfl ?_
     refine W_bld1 0 rfl Ty.cell22 rfl hS147 rfl rfl ?_
     refine W_lenv rfl Go.Proofs.Try.underlying22 rfl (hS147.rowLn (k := 2) rfl) ?_
     refine W_move rfl rfl ?_
     refine W_nil ?_
     refine N_code ?_
     refine C_block ?_
     refine C_loopM (fun (s : Int × Int × (Int → Option (List Read)) × (List Int) × (List Int) × (List Int) × (List Move)) E wq => ∃ (F166 : Frz) (bs170 : List Nat) (u175 : Value), E = [(7, pl g11 0), (75, ur9_0), (76, .int .i64 (l154.length : Int)), (77, .int .i64 s.1)] ∧ F147.le F166 ∧ St [] w F F166 [.box g11 70 [ur6_0, v8, ur9_0, .map (some g10), u175, .int .i64 s.2.1], .deep (tMap (ktInt Go.Proofs.Try.underlying3) (tRow Read.t 39) noHole) bs170 [.map (some g10)] s.2.2.1, .row tI 3 ur9_0 s.2.2.2.1, .row tI 3 v8 s.2.2.2.2.1, .row tI 3 ur6_0 s.2.2.2.2.2.1, .row Move.t 42 u175 s.2.2.2.2.2.2] wq) H ?_ ?_
     ·
      exact ⟨_, ⟨F147, bs153, u149, rfl, (Frz.le.refl _), hS147⟩, ⟨rfl, rfl, rfl, rfl, trivial⟩⟩
     ·
      rintro rec176 ⟨i167, i168, m169, l171, l172, l173, l174⟩ E w166 hI H
      try dsimp only at hI
      obtain ⟨F166, bs170, u175, rfl, le166, hS166⟩ := hI
      dsimp only [mounts_Moves.l4] at H
      refine C_seq ?_
      refine C_region ?_
      refine W_lss rfl rfl rfl ?_
      refine W_nil ?_
      refine N_code ?_
      refine C_seq ?_
      refine C_cond rfl (fun hc177 => ?_) (fun hc177 => ?_)
      ·
       rw [if_t hc177] at H
       refine C_skip ?_
       refine N_code ?_
       refine C_seq_join (fun E wq => ∃ i179 : Int, ∃ m180 : Int → Option (List Read), ∃ l182 : List Int, ∃ l183 : List Int, ∃ l184 : List Int, ∃ l185 : List Move, mounts_Moves.k5 i167 rec176 i179 m180 l182 l183 l184 l185 = some r ∧ ∃ (F178 : Frz) (bs181 : List Nat) (u186 : Value), E = [(7, pl g11 0), (75, ur9_0), (76, .int .i64 (l154.length : Int)), (77, .int .i64 i167)] ∧ F166.le F178 ∧ St [] w F F178 [.box g11 70 [ur6_0, v8, ur9_0, .map (some g10), u186, .int .i64 i179], .deep (tMap (ktInt Go.Proofs.Try.underlying3) (tRow Read.t 39) noHole) bs181 [.map (some g10)] m180, .row tI 3 ur9_0 l182, .row tI 3 v8 l183, .row tI 3 ur6_0 l184, .row Move.t 42 u186 l185] wq) ?_ ?_
       ·
        refine C_block ?_
        refine C_seq ?_
        obtain ⟨x187, hx187, H⟩ := bd_some H
        refine C_region ?_
        obtain ⟨hp189, hy189⟩ := ix_some hx187
        obtain ⟨cs189, hr189, he189⟩ := hS166.rowAt (k := 2) rfl hy189
        obtain rfl := hr189
        replace he189 : El _ _ 1 _ _ := he189
        refine W_ix rfl Go.Proofs.Try.underlying22 Ty.cells3 Ty.info3 rfl rfl he189 hp189 rfl ?_
        refine W_ld1 0 rfl Ty.cell3 rfl he189 (by omega) rfl ?_
        refine W_assign rfl rfl ?_
        refine W_nil ?_
        refine N_code ?_
        refine C_seq ?_
        refine C_seq ?_
        obtain ⟨l191, hl191, H⟩ := bd_some H
        refine C_region ?_
        refine W_move rfl rfl ?_
        refine W_nil_pl rfl rfl ?_
        refine W_field_pl 3 rfl Ty.field70_3 rfl ?_
        refine W_bld1 0 rfl Ty.cell68 rfl hS166 rfl rfl ?_
        refine W_move rfl rfl ?_
        refine W_dig (a := x187)  1 rfl Go.Proofs.Try.underlying68 Go.Proofs.Try.zeroValue23  rfl rfl rfl trivial hS166 rfl ?_
        intro u190 bs190 hS190
        rw [Option.some.inj hl191] at hS190
        refine W_lenv rfl Go.Proofs.Try.underlying23 rfl (hS190.rowLn (k := 0) rfl) ?_
        refine W_eql rfl rfl rfl ?_
        refine W_nil ?_
        refine N_code ?_
        refine C_cond rfl (fun hc192 => ?_) (fun hc192 => ?_)
        ·
         rw [if_t hc192] at H
         refine C_exit _ rfl ?_
         obtain ⟨bs193, hS193⟩ := hS190.undig 2 0 [1, 2, 3, 4, 5, 6] trivial rfl rfl (Option.some.inj hl191).symm (by decide) (by decide) (by decide)
         exact N_join _ ⟨i168, m169, l171, l172, l173, l174, H, ⟨F166, bs193, u175, rfl, (Frz.le.refl _), hS193⟩⟩ ⟨rfl, rfl, rfl, rfl, trivial⟩
        ·
         rw [if_f hc192] at H
         refine C_skip ?_
         refine N_code ?_
         refine C_seq ?_
         obtain ⟨bs194, hS194⟩ := hS190.undig 2 0 [1, 2, 3, 4, 5, 6] trivial rfl rfl (Option.some.inj hl191).symm (by decide) (by decide) (by decide)
         obtain ⟨r195, hr195, H⟩ := bd_some H
         refine C_region ?_
         refine W_move rfl rfl ?_
         refine W_call rfl Ty.named41 rfl (mounts_walk_free_ok (x0 := (MountsWalk.mk l173 l172 l171 m169 l174 i168)) (hS194.lendL [0, 4, 3, 2, 1, 5] (by decide)) hr195) ?_
         rintro v196 w196 ⟨Fr195, bsr195_b0_3, rfl, hT196⟩
         have hS196 := hS194.backL [0, 4, 3, 2, 1, 5] [] (by decide) (by decide) hT196
         have ler195 := hT196.ext
         refine W_assign rfl rfl ?_
         refine W_nil ?_
         refine N_code ?_
         refine C_seq ?_
         refine C_region ?_
         refine W_move rfl rfl ?_
         refine W_nil_pl rfl rfl ?_
         refine W_field_pl 5 rfl Ty.field70_5 rfl ?_
         refine W_bld1 0 rfl Ty.cell3 rfl hS196 rfl rfl ?_
         refine W_add rfl rfl rfl rfl ?_
         refine W_nil_pl rfl rfl ?_
         refine W_field_pl 5 rfl Ty.field70_5 rfl ?_
         refine W_bst (c := [.int .i64 (wr (r195.2.mounts + 1))]) 0 ([ur6_0, v8, ur9_0, .map (some g10), u175, .int .i64 (wr (r195.2.mounts + 1))]) rfl rfl hS196 rfl rfl Ty.size3 (by intro y hy; simp at hy; subst hy; rfl) (Nat.le_of_ble_eq_true rfl) rfl ?_
         intro w197 hS197
         refine W_nil ?_
         refine N_code ?_
         refine C_seq ?_
         obtain ⟨x198, hx198, H⟩ := bd_some H
         obtain ⟨x200, hx200, H⟩ := bd_some H
         apply C_drawJ (fun D vs wz => ∀ (b15 b16 : Bool), D 15 = b15 → D 16 = b16 → match b15, b16 with | false, false => ∃ FJ : Frz, Fr195.le FJ ∧ St [] w F FJ [.box g11 70 [ur6_0, v8, ur9_0, .map (some g10), u175, .int .i64 (wr (r195.2.mounts + 1))], .row tI 3 ur6_0 r195.2.holds, .row tI 3 v8 r195.2.asked, .row tI 3 ur9_0 r195.2.vols, .deep (tMap (ktInt Go.Proofs.Try.underlying3) (tRow Read.t 39) noHole) bsr195_b0_3 [.map (some g10)] r195.2.left, .row Move.t 42 u175 r195.2.moves] wz | true, false => ∃ FJ : Frz, vs 15 = elp ur6_0 (r195.1.toNat * 1) ∧ Fr195.le FJ ∧ St [] w F FJ [.box g11 70 [ur6_0, v8, ur9_0, .map (some g10), u175, .int .i64 (wr (r195.2.mounts + 1))], .row tI 3 ur6_0 r195.2.holds, .row tI 3 v8 r195.2.asked, .row tI 3 ur9_0 r195.2.vols, .deep (tMap (ktInt Go.Proofs.Try.underlying3) (tRow Read.t 39) noHole) bsr195_b0_3 [.map (some g10)] r195.2.left, .row Move.t 42 u175 r195.2.moves] wz | true, true => ∃ FJ : Frz, vs 15 = elp ur6_0 (r195.1.toNat * 1) ∧ Fr195.le FJ ∧ St [] w F FJ [.box g11 70 [ur6_0, v8, ur9_0, .map (some g10), u175, .int .i64 (wr (r195.2.mounts + 1))], .row tI 3 ur6_0 (r195.2.holds.set r195.1.toNat x187), .row tI 3 v8 r195.2.asked, .row tI 3 ur9_0 r195.2.vols, .deep (tMap (ktInt Go.Proofs.Try.underlying3) (tRow Read.t 39) noHole) bsr195_b0_3 [.map (some g10)] r195.2.left, .row Move.t 42 u175 r195.2.moves] wz | _, _ => False) 17 [[], [0], [1], [2], [], [], [5], [6], [7], [], [], [], [11], [12], [13], [0, 1, 2, 3, 4, 8, 10, 14], [0, 1, 2, 3, 4, 8, 10, 14, 15]] [some (pl g11 0), some (pl g11 0), some (pl g11 (0 + 0)), some (ur6_0), some (.int .i64 r195.1), some (pl g11 0), some (pl g11 0), some (pl g11 (0 + 1)), some (v8), some (.int .i64 r195.1), some (.int .i64 x187), some (pl g11 0), some (pl g11 0), some (pl g11 (0 + 5)), some (.int .i64 (wr (r195.2.mounts + 1))), none, none] Ty.mixed rfl (by kernel_rfl) (by kernel_rfl) rfl
         ·
          intro vq214 b15 b16 h15 h16
          obtain rfl : b15 = false := h15.symm
          obtain rfl : b16 = false := h16.symm
          exact ⟨Fr195, (Frz.le.refl _), (hS197.below (below_drew _))⟩
         ·
          refine ⟨?_, ?_, ?_, ?_, ?_, ?_, ?_, ?_, ?_, ?_, ?_, ?_, ?_, ?_, ?_, ?_, ?_, trivial⟩
          ·
           intro w215 vq215 D215 hD215 hd215 hJ215
           refine W_move rfl rfl ?_
           refine W_nil ?_
           exact N_stepJ rfl (fun u hu => Option.some.inj hu) hJ215
          ·
           intro w216 vq216 D216 hD216 hd216 hJ216
           rcases Bool.eq_false_or_eq_true (D216 15) with hb217 | hb217
           ·
            rcases Bool.eq_false_or_eq_true (D216 16) with hb218 | hb218
            ·
             obtain ⟨FJ216, he216_15, leJ216, hSJ216⟩ := (hJ216 true true hb217 hb218)
             refine W_nil_pl rfl rfl ?_
             refine W_nil ?_
             exact N_stepJ rfl (fun u hu => Option.some.inj hu) (fun b15 b16 h15 h16 => by obtain rfl : b15 = true := h15.symm.trans hb217; obtain rfl : b16 = true := h16.symm.trans hb218; exact ⟨FJ216, he216_15, leJ216, hSJ216⟩)
            ·
             obtain ⟨FJ216, he216_15, leJ216, hSJ216⟩ := (hJ216 true false hb217 hb218)
             refine W_nil_pl rfl rfl ?_
             refine W_nil ?_
             exact N_stepJ rfl (fun u hu => Option.some.inj hu) (fun b15 b16 h15 h16 => by obtain rfl : b15 = true := h15.symm.trans hb217; obtain rfl : b16 = false := h16.symm.trans hb218; exact ⟨FJ216, he216_15, leJ216, hSJ216⟩)
           ·
            rcases Bool.eq_false_or_eq_true (D216 16) with hb219 | hb219
            ·
             exact False.elim (hJ216 false true hb217 hb219)
            ·
             obtain ⟨FJ216, leJ216, hSJ216⟩ := (hJ216 false false hb217 hb219)
             refine W_nil_pl rfl rfl ?_
             refine W_nil ?_
             exact N_stepJ rfl (fun u hu => Option.some.inj hu) (fun b15 b16 h15 h16 => by obtain rfl : b15 = false := h15.symm.trans hb217; obtain rfl : b16 = false := h16.symm.trans hb219; exact ⟨FJ216, leJ216, hSJ216⟩)
          ·
           intro w220 vq220 D220 hD220 hd220 hJ220
           rcases Bool.eq_false_or_eq_true (D220 15) with hb221 | hb221
           ·
            rcases Bool.eq_false_or_eq_true (D220 16) with hb222 | hb222
            ·
             obtain ⟨FJ220, he220_15, leJ220, hSJ220⟩ := (hJ220 true true hb221 hb222)
             refine W_field_pl 0 rfl Ty.field70_0 rfl ?_
             refine W_nil ?_
             exact N_stepJ rfl (fun u hu => Option.some.inj hu) (fun b15 b16 h15 h16 => by obtain rfl : b15 = true := h15.symm.trans hb221; obtain rfl : b16 = true := h16.symm.trans hb222; exact ⟨FJ220, he220_15, leJ220, hSJ220⟩)
            ·
             obtain ⟨FJ220, he220_15, leJ220, hSJ220⟩ := (hJ220 true false hb221 hb222)
             refine W_field_pl 0 rfl Ty.field70_0 rfl ?_
             refine W_nil ?_
             exact N_stepJ rfl (fun u hu => Option.some.inj hu) (fun b15 b16 h15 h16 => by obtain rfl : b15 = true := h15.symm.trans hb221; obtain rfl : b16 = false := h16.symm.trans hb222; exact ⟨FJ220, he220_15, leJ220, hSJ220⟩)
           ·
            rcases Bool.eq_false_or_eq_true (D220 16) with hb223 | hb223
            ·
             exact False.elim (hJ220 false true hb221 hb223)
            ·
             obtain ⟨FJ220, leJ220, hSJ220⟩ := (hJ220 false false hb221 hb223)
             refine W_field_pl 0 rfl Ty.field70_0 rfl ?_
             refine W_nil ?_
             exact N_stepJ rfl (fun u hu => Option.some.inj hu) (fun b15 b16 h15 h16 => by obtain rfl : b15 = false := h15.symm.trans hb221; obtain rfl : b16 = false := h16.symm.trans hb223; exact ⟨FJ220, leJ220, hSJ220⟩)
          ·
           intro w224 vq224 D224 hD224 hd224 hJ224
           rcases Bool.eq_false_or_eq_true (D224 15) with hb225 | hb225
           ·
            rcases Bool.eq_false_or_eq_true (D224 16) with hb226 | hb226
            ·
             obtain ⟨FJ224, he224_15, leJ224, hSJ224⟩ := (hJ224 true true hb225 hb226)
             refine W_bld1 0 rfl Ty.cell22 rfl hSJ224 rfl rfl ?_
             refine W_nil ?_
             exact N_stepJ rfl (fun u hu => Option.some.inj hu) (fun b15 b16 h15 h16 => by obtain rfl : b15 = true := h15.symm.trans hb225; obtain rfl : b16 = true := h16.symm.trans hb226; exact ⟨FJ224, he224_15, leJ224, hSJ224⟩)
            ·
             obtain ⟨FJ224, he224_15, leJ224, hSJ224⟩ := (hJ224 true false hb225 hb226)
             refine W_bld1 0 rfl Ty.cell22 rfl hSJ224 rfl rfl ?_
             refine W_nil ?_
             exact N_stepJ rfl (fun u hu => Option.some.inj hu) (fun b15 b16 h15 h16 => by obtain rfl : b15 = true := h15.symm.trans hb225; obtain rfl : b16 = false := h16.symm.trans hb226; exact ⟨FJ224, he224_15, leJ224, hSJ224⟩)
           ·
            rcases Bool.eq_false_or_eq_true (D224 16) with hb227 | hb227
            ·
             exact False.elim (hJ224 false true hb225 hb227)
            ·
             obtain ⟨FJ224, leJ224, hSJ224⟩ := (hJ224 false false hb225 hb227)
             refine W_bld1 0 rfl Ty.cell22 rfl hSJ224 rfl rfl ?_
             refine W_nil ?_
             exact N_stepJ rfl (fun u hu => Option.some.inj hu) (fun b15 b16 h15 h16 => by obtain rfl : b15 = false := h15.symm.trans hb225; obtain rfl : b16 = false := h16.symm.trans hb227; exact ⟨FJ224, leJ224, hSJ224⟩)
          ·
           intro w228 vq228 D228 hD228 hd228 hJ228
           refine W_move rfl rfl ?_
           refine W_nil ?_
           exact N_stepJ rfl (fun u hu => Option.some.inj hu) hJ228
          ·
           intro w229 vq229 D229 hD229 hd229 hJ229
           refine W_move rfl rfl ?_
           refine W_nil ?_
           exact N_stepJ rfl (fun u hu => Option.some.inj hu) hJ229
          ·
           intro w230 vq230 D230 hD230 hd230 hJ230
           rcases Bool.eq_false_or_eq_true (D230 15) with hb231 | hb231
           ·
            rcases Bool.eq_false_or_eq_true (D230 16) with hb232 | hb232
            ·
             obtain ⟨FJ230, he230_15, leJ230, hSJ230⟩ := (hJ230 true true hb231 hb232)
             refine W_nil_pl rfl rfl ?_
             refine W_nil ?_
             exact N_stepJ rfl (fun u hu => Option.some.inj hu) (fun b15 b16 h15 h16 => by obtain rfl : b15 = true := h15.symm.trans hb231; obtain rfl : b16 = true := h16.symm.trans hb232; exact ⟨FJ230, he230_15, leJ230, hSJ230⟩)
            ·
             obtain ⟨FJ230, he230_15, leJ230, hSJ230⟩ := (hJ230 true false hb231 hb232)
             refine W_nil_pl rfl rfl ?_
             refine W_nil ?_
             exact N_stepJ rfl (fun u hu => Option.some.inj hu) (fun b15 b16 h15 h16 => by obtain rfl : b15 = true := h15.symm.trans hb231; obtain rfl : b16 = false := h16.symm.trans hb232; exact ⟨FJ230, he230_15, leJ230, hSJ230⟩)
           ·
            rcases Bool.eq_false_or_eq_true (D230 16) with hb233 | hb233
            ·
             exact False.elim (hJ230 false true hb231 hb233)
            ·
             obtain ⟨FJ230, leJ230, hSJ230⟩ := (hJ230 false false hb231 hb233)
             refine W_nil_pl rfl rfl ?_
             refine W_nil ?_
             exact N_stepJ rfl (fun u hu => Option.some.inj hu) (fun b15 b16 h15 h16 => by obtain rfl : b15 = false := h15.symm.trans hb231; obtain rfl : b16 = false := h16.symm.trans hb233; exact ⟨FJ230, leJ230, hSJ230⟩)
          ·
           intro w234 vq234 D234 hD234 hd234 hJ234
           rcases Bool.eq_false_or_eq_true (D234 15) with hb235 | hb235
           ·
            rcases Bool.eq_false_or_eq_true (D234 16) with hb236 | hb236
            ·
             obtain ⟨FJ234, he234_15, leJ234, hSJ234⟩ := (hJ234 true true hb235 hb236)
             refine W_field_pl 1 rfl Ty.field70_1 rfl ?_
             refine W_nil ?_
             exact N_stepJ rfl (fun u hu => Option.some.inj hu) (fun b15 b16 h15 h16 => by obtain rfl : b15 = true := h15.symm.trans hb235; obtain rfl : b16 = true := h16.symm.trans hb236; exact ⟨FJ234, he234_15, leJ234, hSJ234⟩)
            ·
             obtain ⟨FJ234, he234_15, leJ234, hSJ234⟩ := (hJ234 true false hb235 hb236)
             refine W_field_pl 1 rfl Ty.field70_1 rfl ?_
             refine W_nil ?_
             exact N_stepJ rfl (fun u hu => Option.some.inj hu) (fun b15 b16 h15 h16 => by obtain rfl : b15 = true := h15.symm.trans hb235; obtain rfl : b16 = false := h16.symm.trans hb236; exact ⟨FJ234, he234_15, leJ234, hSJ234⟩)
           ·
            rcases Bool.eq_false_or_eq_true (D234 16) with hb237 | hb237
            ·
             exact False.elim (hJ234 false true hb235 hb237)
            ·
             obtain ⟨FJ234, leJ234, hSJ234⟩ := (hJ234 false false hb235 hb237)
             refine W_field_pl 1 rfl Ty.field70_1 rfl ?_
             refine W_nil ?_
             exact N_stepJ rfl (fun u hu => Option.some.inj hu) (fun b15 b16 h15 h16 => by obtain rfl : b15 = false := h15.symm.trans hb235; obtain rfl : b16 = false := h16.symm.trans hb237; exact ⟨FJ234, leJ234, hSJ234⟩)
          ·
           intro w238 vq238 D238 hD238 hd238 hJ238
           rcases Bool.eq_false_or_eq_true (D238 15) with hb239 | hb239
           ·
            rcases Bool.eq_false_or_eq_true (D238 16) with hb240 | hb240
            ·
             obtain ⟨FJ238, he238_15, leJ238, hSJ238⟩ := (hJ238 true true hb239 hb240)
             refine W_bld1 0 rfl Ty.cell22 rfl hSJ238 rfl rfl ?_
             refine W_nil ?_
             exact N_stepJ rfl (fun u hu => Option.some.inj hu) (fun b15 b16 h15 h16 => by obtain rfl : b15 = true := h15.symm.trans hb239; obtain rfl : b16 = true := h16.symm.trans hb240; exact ⟨FJ238, he238_15, leJ238, hSJ238⟩)
            ·
             obtain ⟨FJ238, he238_15, leJ238, hSJ238⟩ := (hJ238 true false hb239 hb240)
             refine W_bld1 0 rfl Ty.cell22 rfl hSJ238 rfl rfl ?_
             refine W_nil ?_
             exact N_stepJ rfl (fun u hu => Option.some.inj hu) (fun b15 b16 h15 h16 => by obtain rfl : b15 = true := h15.symm.trans hb239; obtain rfl : b16 = false := h16.symm.trans hb240; exact ⟨FJ238, he238_15, leJ238, hSJ238⟩)
           ·
            rcases Bool.eq_false_or_eq_true (D238 16) with hb241 | hb241
            ·
             exact False.elim (hJ238 false true hb239 hb241)
            ·
             obtain ⟨FJ238, leJ238, hSJ238⟩ := (hJ238 false false hb239 hb241)
             refine W_bld1 0 rfl Ty.cell22 rfl hSJ238 rfl rfl ?_
             refine W_nil ?_
             exact N_stepJ rfl (fun u hu => Option.some.inj hu) (fun b15 b16 h15 h16 => by obtain rfl : b15 = false := h15.symm.trans hb239; obtain rfl : b16 = false := h16.symm.trans hb241; exact ⟨FJ238, leJ238, hSJ238⟩)
          ·
           intro w242 vq242 D242 hD242 hd242 hJ242
           refine W_move rfl rfl ?_
           refine W_nil ?_
           exact N_stepJ rfl (fun u hu => Option.some.inj hu) hJ242
          ·
           intro w243 vq243 D243 hD243 hd243 hJ243
           refine W_move rfl rfl ?_
           refine W_nil ?_
           exact N_stepJ rfl (fun u hu => Option.some.inj hu) hJ243
          ·
           intro w244 vq244 D244 hD244 hd244 hJ244
           refine W_move rfl rfl ?_
           refine W_nil ?_
           exact N_stepJ rfl (fun u hu => Option.some.inj hu) hJ244
          ·
           intro w245 vq245 D245 hD245 hd245 hJ245
           rcases Bool.eq_false_or_eq_true (D245 15) with hb246 | hb246
           ·
            rcases Bool.eq_false_or_eq_true (D245 16) with hb247 | hb247
            ·
             obtain ⟨FJ245, he245_15, leJ245, hSJ245⟩ := (hJ245 true true hb246 hb247)
             refine W_nil_pl rfl rfl ?_
             refine W_nil ?_
             exact N_stepJ rfl (fun u hu => Option.some.inj hu) (fun b15 b16 h15 h16 => by obtain rfl : b15 = true := h15.symm.trans hb246; obtain rfl : b16 = true := h16.symm.trans hb247; exact ⟨FJ245, he245_15, leJ245, hSJ245⟩)
            ·
             obtain ⟨FJ245, he245_15, leJ245, hSJ245⟩ := (hJ245 true false hb246 hb247)
             refine W_nil_pl rfl rfl ?_
             refine W_nil ?_
             exact N_stepJ rfl (fun u hu => Option.some.inj hu) (fun b15 b16 h15 h16 => by obtain rfl : b15 = true := h15.symm.trans hb246; obtain rfl : b16 = false := h16.symm.trans hb247; exact ⟨FJ245, he245_15, leJ245, hSJ245⟩)
           ·
            rcases Bool.eq_false_or_eq_true (D245 16) with hb248 | hb248
            ·
             exact False.elim (hJ245 false true hb246 hb248)
            ·
             obtain ⟨FJ245, leJ245, hSJ245⟩ := (hJ245 false false hb246 hb248)
             refine W_nil_pl rfl rfl ?_
             refine W_nil ?_
             exact N_stepJ rfl (fun u hu => Option.some.inj hu) (fun b15 b16 h15 h16 => by obtain rfl : b15 = false := h15.symm.trans hb246; obtain rfl : b16 = false := h16.symm.trans hb248; exact ⟨FJ245, leJ245, hSJ245⟩)
          ·
           intro w249 vq249 D249 hD249 hd249 hJ249
           rcases Bool.eq_false_or_eq_true (D249 15) with hb250 | hb250
           ·
            rcases Bool.eq_false_or_eq_true (D249 16) with hb251 | hb251
            ·
             obtain ⟨FJ249, he249_15, leJ249, hSJ249⟩ := (hJ249 true true hb250 hb251)
             refine W_field_pl 5 rfl Ty.field70_5 rfl ?_
             refine W_nil ?_
             exact N_stepJ rfl (fun u hu => Option.some.inj hu) (fun b15 b16 h15 h16 => by obtain rfl : b15 = true := h15.symm.trans hb250; obtain rfl : b16 = true := h16.symm.trans hb251; exact ⟨FJ249, he249_15, leJ249, hSJ249⟩)
            ·
             obtain ⟨FJ249, he249_15, leJ249, hSJ249⟩ := (hJ249 true false hb250 hb251)
             refine W_field_pl 5 rfl Ty.field70_5 rfl ?_
             refine W_nil ?_
             exact N_stepJ rfl (fun u hu => Option.some.inj hu) (fun b15 b16 h15 h16 => by obtain rfl : b15 = true := h15.symm.trans hb250; obtain rfl : b16 = false := h16.symm.trans hb251; exact ⟨FJ249, he249_15, leJ249, hSJ249⟩)
           ·
            rcases Bool.eq_false_or_eq_true (D249 16) with hb252 | hb252
            ·
             exact False.elim (hJ249 false true hb250 hb252)
            ·
             obtain ⟨FJ249, leJ249, hSJ249⟩ := (hJ249 false false hb250 hb252)
             refine W_field_pl 5 rfl Ty.field70_5 rfl ?_
             refine W_nil ?_
             exact N_stepJ rfl (fun u hu => Option.some.inj hu) (fun b15 b16 h15 h16 => by obtain rfl : b15 = false := h15.symm.trans hb250; obtain rfl : b16 = false := h16.symm.trans hb252; exact ⟨FJ249, leJ249, hSJ249⟩)
          ·
           intro w253 vq253 D253 hD253 hd253 hJ253
           rcases Bool.eq_false_or_eq_true (D253 15) with hb254 | hb254
           ·
            rcases Bool.eq_false_or_eq_true (D253 16) with hb255 | hb255
            ·
             obtain ⟨FJ253, he253_15, leJ253, hSJ253⟩ := (hJ253 true true hb254 hb255)
             refine W_bld1 0 rfl Ty.cell3 rfl hSJ253 rfl rfl ?_
             refine W_nil ?_
             exact N_stepJ rfl (fun u hu => Option.some.inj hu) (fun b15 b16 h15 h16 => by obtain rfl : b15 = true := h15.symm.trans hb254; obtain rfl : b16 = true := h16.symm.trans hb255; exact ⟨FJ253, he253_15, leJ253, hSJ253⟩)
            ·
             obtain ⟨FJ253, he253_15, leJ253, hSJ253⟩ := (hJ253 true false hb254 hb255)
             refine W_bld1 0 rfl Ty.cell3 rfl hSJ253 rfl rfl ?_
             refine W_nil ?_
             exact N_stepJ rfl (fun u hu => Option.some.inj hu) (fun b15 b16 h15 h16 => by obtain rfl : b15 = true := h15.symm.trans hb254; obtain rfl : b16 = false := h16.symm.trans hb255; exact ⟨FJ253, he253_15, leJ253, hSJ253⟩)
           ·
            rcases Bool.eq_false_or_eq_true (D253 16) with hb256 | hb256
            ·
             exact False.elim (hJ253 false true hb254 hb256)
            ·
             obtain ⟨FJ253, leJ253, hSJ253⟩ := (hJ253 false false hb254 hb256)
             refine W_bld1 0 rfl Ty.cell3 rfl hSJ253 rfl rfl ?_
             refine W_nil ?_
             exact N_stepJ rfl (fun u hu => Option.some.inj hu) (fun b15 b16 h15 h16 => by obtain rfl : b15 = false := h15.symm.trans hb254; obtain rfl : b16 = false := h16.symm.trans hb256; exact ⟨FJ253, leJ253, hSJ253⟩)
          ·
           intro w257 vq257 D257 hD257 hd257 hJ257
           rcases Bool.eq_false_or_eq_true (D257 16) with hb258 | hb258
           ·
            exact False.elim (hJ257 false true hD257 hb258)
           ·
            obtain ⟨FJ257, leJ257, hSJ257⟩ := (hJ257 false false hD257 hb258)
            obtain ⟨hp259, hy259⟩ := ix_some hx198
            obtain ⟨cs259, hr259, he259⟩ := hSJ257.rowAt (k := 1) rfl hy259
            obtain rfl := hr259
            replace he259 : El _ _ 1 _ _ := he259
            refine W_ix rfl Go.Proofs.Try.underlying22 Ty.cells3 Ty.info3 rfl rfl he259 hp259 rfl ?_
            refine W_nil ?_
            exact N_stepJ rfl (fun u (hu : (none : Option Value) = some u) => by cases hu) (fun b15 b16 h15 h16 => by obtain rfl : b15 = true := h15.symm; obtain rfl : b16 = false := h16.symm.trans hb258; exact ⟨FJ257, rfl, leJ257, hSJ257⟩)
          ·
           intro w260 vq260 D260 hD260 hd260 hJ260
           obtain ⟨FJ260, he260_15, leJ260, hSJ260⟩ := (hJ260 true false (hd260 15 (by decide)) hD260)
           refine W_eqv (t := 113) rfl he260_15 ?_
           obtain ⟨hp262, hy262⟩ := ix_some hx198
           obtain ⟨cs262, hr262, he262⟩ := hSJ260.rowAt (k := 1) rfl hy262
           obtain rfl := hr262
           replace he262 : El _ _ 1 _ _ := he262
           refine W_put (c := [.int .i64 x187]) 1 (r195.1.toNat) 0 x198 x187 rfl rfl hSJ260 rfl (ix_some hx198).2 (by first | rfl | (show _ = _ * 1 + _; omega)) rfl Ty.size3 (by intro y hy; simp at hy; subst hy; rfl) (by first | decide | exact Nat.le_of_ble_eq_true rfl) (by rintro cs rfl; rfl) ?_
           intro w261 hS261
           refine W_nil ?_
           exact N_stepJ0 (fun b15 b16 h15 h16 => by obtain rfl : b15 = true := h15.symm.trans (hd260 15 (by decide)); obtain rfl : b16 = true := h16.symm; exact ⟨FJ260, he260_15, leJ260, hS261⟩)
         intro w264 vq264 D264 hA264 hJ264
         obtain ⟨FJ264, he264_15, leJ264, hSJ264⟩ := (hJ264 true true (hA264 15 (by decide)) (hA264 16 (by decide)))
         refine W_eqv (t := 113) rfl he264_15 ?_
         obtain ⟨hp265, hy265⟩ := ix_some hx200
         obtain ⟨cs265, hr265, he265⟩ := hSJ264.rowAt (k := 2) rfl hy265
         obtain rfl := hr265
         replace he265 : El _ _ 1 _ _ := he265
         refine W_ix rfl Go.Proofs.Try.underlying22 Ty.cells3 Ty.info3 rfl rfl he265 hp265 rfl ?_
         refine W_put (c := [.int .i64 (wr (r195.2.mounts + 1))]) 2 (r195.1.toNat) 0 x200 (wr (r195.2.mounts + 1)) rfl rfl hSJ264 rfl (ix_some hx200).2 (by first | rfl | (show _ = _ * 1 + _; omega)) rfl Ty.size3 (by intro y hy; simp at hy; subst hy; rfl) (by first | decide | exact Nat.le_of_ble_eq_true rfl) (by rintro cs rfl; rfl) ?_
         intro w266 hS266
         refine W_nil ?_
         refine N_code ?_
         refine C_seq ?_
         obtain ⟨l269, hl269, H⟩ := bd_some H
         refine C_region ?_
         refine W_move rfl rfl ?_
         refine W_move rfl rfl ?_
         refine W_nil_pl rfl rfl ?_
         refine W_field_pl 4 rfl Ty.field70_4 rfl ?_
         refine W_bld1 0 rfl Ty.cell25 rfl hS266 rfl rfl ?_
         refine W_move rfl rfl ?_
         refine W_move rfl rfl ?_
         refine W_build (v := .agg (Move.cells (Move.mk 1 r195.1 x187 (Loc.mk 0 0 0 0))).toArray) rfl rfl (fun _ => by kernel_rfl) ?_
         refine W_bs (t := Move.t) [(Move.cells (Move.mk 1 r195.1 x187 (Loc.mk 0 0 0 0)))] [(Move.mk 1 r195.1 x187 (Loc.mk 0 0 0 0))] rfl Go.Proofs.Try.underlying25 Ty.cells42 rfl rfl Ty.zero42 rfl rfl ⟨rfl, trivial⟩ rfl rfl hS266 ?_
         intro u268 w268 hS268
         refine W_appM 6 rfl Go.Proofs.Try.underlying25 Ty.row42 rfl rfl rfl rfl rfl hS268 rfl (hS268.rowSrc (j := 0) rfl) hl269 ?_
         intro v270 w270 hS270
         refine W_nil_pl rfl rfl ?_
         refine W_field_pl 4 rfl Ty.field70_4 rfl ?_
         refine W_bst (c := [v270]) 1 ([ur6_0, v8, ur9_0, .map (some g10), v270, .int .i64 (wr (r195.2.mounts + 1))]) rfl rfl hS270 rfl (by rw [(hS270.rowLn (k := 6) rfl).cells]) Ty.size25 (by intro y hy; simp at hy; subst hy; exact (hS270.rowLn (k := 6) rfl).one) (Nat.le_of_ble_eq_true rfl) rfl ?_
         intro w271 hS271
         refine W_nil ?_
         refine N_code ?_
         obtain ⟨r272, hr272, H⟩ := bd_some H
         refine C_region ?_
         refine W_move rfl rfl ?_
         refine W_move rfl rfl ?_
         refine W_call rfl Ty.named40 rfl (mounts_walk_read_ok (x0 := (MountsWalk.mk (r195.2.holds.set r195.1.toNat x187) (r195.2.asked.set r195.1.toNat (wr (r195.2.mounts + 1))) r195.2.vols r195.2.left l269 (wr (r195.2.mounts + 1)))) (x1 := r195.1) (hS271.lendL [1, 2, 3, 4, 5, 6] (by decide)) hr272) ?_
         rintro v273 w273 ⟨Fr272, bsr272_b0_3, ur272_b0_4, rfl, hT273⟩
         have hS273 := hS271.backL [1, 2, 3, 4, 5, 6] [0] (by decide) (by decide) hT273
         have ler272 := hT273.ext
         refine W_nil ?_
         refine N_block ?_
         exact N_join _ ⟨r272.mounts, r272.left, r272.vols, r272.asked, r272.holds, r272.moves, H, ⟨Fr272, bsr272_b0_3, ur272_b0_4, rfl, ((ler195.trans leJ264).trans ler272), hS273.pick [0, 4, 3, 2, 1, 5] (by decide)⟩⟩ ⟨rfl, rfl, rfl, rfl, trivial⟩
       ·
        rintro E w178 ⟨i179, m180, l182, l183, l184, l185, H, F178, bs181, u186, rfl, le178, hS178⟩
        dsimp only [mounts_Moves.k5] at H
        refine C_region ?_
        refine W_add rfl rfl rfl rfl ?_
        refine W_move rfl rfl ?_
        refine W_nil ?_
        exact N_againM (wr (i167 + 1), i179, m180, l182, l183, l184, l185) _ H ⟨F178, bs181, u186, rfl, (le166.trans le178), hS178⟩ ⟨rfl, rfl, rfl, rfl, trivial⟩
      ·
       rw [if_f hc177] at H
       refine C_exit _ rfl ?_
       exact N_join _ ⟨i168, m169, l171, l172, l173, l174, H, ⟨F166, bs170, u175, rfl, le166, hS166⟩⟩ ⟨rfl, trivial⟩
    ·
     rintro E w157 ⟨i158, m159, l161, l162, l163, l164, H, F157, bs160, u165, rfl, le157, hS157⟩
     dsimp only [mounts_Moves.k3] at H
     refine C_seq ?_
     refine C_region ?_
     refine W_move rfl rfl ?_
     refine W_nil_pl rfl rfl ?_
     refine W_field_pl 4 rfl Ty.field70_4 rfl ?_
     refine W_bld1 0 rfl Ty.cell25 rfl hS157 rfl rfl ?_
     refine W_assign rfl rfl ?_
     refine W_assign rfl rfl ?_
     refine W_nil ?_
     refine N_code ?_
     obtain rfl := Option.some.inj H
     refine C_ret rfl rfl ?_
     exact ⟨F157, u165, rfl, hS157.pick [5] (by decide)⟩

end Go.Wk.Lf
