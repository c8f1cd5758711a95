import Derived.Test.YtahfmkjafddjhaaMfB
namespace Go.Wk.Lf
open Go.Proofs Go.RowKit
set_option linter.unusedVariables false
set_option linter.unusedSimpArgs false

def cellarerlaw22_MountsFew.k3 : Option Bool :=
  bd (cellarerlaw22_wakes) fun r31 =>
  some r31


def cellarerlaw22_MountsFew.l4 (r16 : (List Move) × Int) (rec35 : Int → Option Bool) : Int → Option Bool
  | i34 =>
    if decide (i34 < (r16.1.length : Int)) then
      bd (ix r16.1 i34) fun x37 =>
      if decide (x37.kind ≠ 2) then
        some false
      else
        rec35 (wr (i34 + 1))
    else
      cellarerlaw22_MountsFew.k3


def cellarerlaw22_MountsFew.k2 (x1 : List Int) (l6 : List Int) (l12 : List Read) (i15 : Int) : Option Bool :=
  bd (mounts_Moves l6 l12) fun r16 =>
  bd (mounts_Moves [(-1)] l12) fun r19 =>
  bd (only (!(((decide (r16.2 ≠ 0) || decide (r19.2 ≠ 0)) || decide ((r16.1.length : Int) ≠ (x1.length : Int))) || decide ((r19.1.length : Int) ≠ wr ((x1.length : Int) + i15)))) (mounts_Bound l12) 0) fun r21 =>
  if ((((decide (r16.2 ≠ 0) || decide (r19.2 ≠ 0)) || decide ((r16.1.length : Int) ≠ (x1.length : Int))) || decide ((r19.1.length : Int) ≠ wr ((x1.length : Int) + i15))) || decide (r21 ≠ wr ((x1.length : Int) + i15))) then
    some false
  else
    loop (cellarerlaw22_MountsFew.l4 r16) 0


def cellarerlaw22_MountsFew.k6 (l42 : List Read) (i46 : Int) (rec48 : ((List Read) × Int × Int × (List Bool)) → Option Bool) (x52 : Int) (i56 : Int) (l57 : List Bool) : Option Bool :=
  bd (app (α := Read) l42 [(Read.mk i46 (Loc.mk (wr x52) 1 i46 13))]) fun l59 =>
  rec48 (l59, i56, wr (i46 + 1), l57)


def cellarerlaw22_MountsFew.l5 (x1 : List Int) (l6 : List Int) (rec48 : ((List Read) × Int × Int × (List Bool)) → Option Bool) : ((List Read) × Int × Int × (List Bool)) → Option Bool
  | (l42, i45, i46, l47) =>
    if decide (i46 < (x1.length : Int)) then
      bd (ix x1 i46) fun x50 =>
      bd (rem (wu x50) (wu (l6.length : Int))) fun x52 =>
      bd (ix l47 (wr x52)) fun x61 =>
      if (!x61) then
        bd (ix l47 (wr x52)) fun x65 =>
        cellarerlaw22_MountsFew.k6 l42 i46 rec48 x52 (wr (i45 + 1)) (l47.set ((wr x52).toNat) true)
      else
        cellarerlaw22_MountsFew.k6 l42 i46 rec48 x52 i45 l47
    else
      cellarerlaw22_MountsFew.k2 x1 l6 l42 i45


def cellarerlaw22_MountsFew.k1 (x1 : List Int) (l6 : List Int) : Option Bool :=
  bd (rep (l6.length : Int) false) fun l9 =>
  loop (cellarerlaw22_MountsFew.l5 x1 l6) ([], 0, 0, l9)


def cellarerlaw22_MountsFew.l7 (x0 : List Int) (x1 : List Int) (rec77 : ((List Int) × Int) → Option Bool) : ((List Int) × Int) → Option Bool
  | (l73, i76) =>
    if decide (i76 < (x0.length : Int)) then
      bd (app (α := Int) l73 [i76]) fun l80 =>
      rec77 (l80, wr (i76 + 1))
    else
      cellarerlaw22_MountsFew.k1 x1 l73

def cellarerlaw22_MountsFew (x0 : List Int) (x1 : List Int) : Option Bool :=
  if ((decide ((x0.length : Int) < 1) || decide (4 < (x0.length : Int))) || decide (50 < (x1.length : Int))) then
    some true
  else
    loop (cellarerlaw22_MountsFew.l7 x0 x1) ([], 0)

theorem cellarerlaw22_MountsFew_ok {F : Frz} {w : World} {x0 : List Int} {x1 : List Int} {r : Bool} {v0 : Value} {v1 : Value} (hA : Agree F w.heap) (h0 : SlF tI F v0 x0) (h1 : SlF tI F v1 x1) (H : cellarerlaw22_MountsFew x0 x1 = some r) : Ret Try.prog 6 #[v0, v1] w fun v w' => ∃ (F' : Frz), v = .bool r ∧ St [] w F F' [] w' := by
 refine Ret_of (args := [v0, v1]) Go.Proofs.Try.func6 rfl rfl ?_
 change C _ _ _ _ [(0, v0), (1, v1)] _
 have hS := St.entry hA
 dsimp only [cellarerlaw22_MountsFew] at H
 refine C_seq ?_
 refine C_region ?_
 refine W_assign rfl rfl ?_
 refine W_nil ?_
 refine N_code ?_
 refine C_seq ?_
 refine C_seq ?_
 refine C_join (fun E wq => E = [(0, v0), (1, v1), (29, .bool ((decide ((x0.length : Int) < 1) || decide (4 < (x0.length : Int))) || decide (50 < (x1.length : Int))))] ∧ ∃ F1 : Frz, F.le F1 ∧ St [] w F F1 [] wq) ?_ ?_
 ·
  rcases Bool.eq_false_or_eq_true (decide ((x0.length : Int) < 1)) with hb2 | hb2
  ·
   refine C_region ?_
   refine W_move rfl rfl ?_
   refine W_lenv rfl Go.Proofs.Try.underlying22 rfl h0.ln ?_
   refine W_lss rfl rfl rfl ?_
   refine W_move rfl rfl ?_
   refine W_known (t := 20) true rfl hb2 ?_
   refine W_guard_no rfl rfl rfl rfl rfl ?_
   refine W_guard_no rfl rfl rfl rfl rfl ?_
   refine W_guard_no rfl rfl rfl rfl rfl ?_
   refine W_pick_t rfl rfl rfl ?_
   refine W_move rfl rfl ?_
   refine W_guard_no rfl rfl rfl rfl rfl ?_
   refine W_guard_no rfl rfl rfl rfl rfl ?_
   refine W_guard_no rfl rfl rfl rfl rfl ?_
   refine W_pick_t rfl rfl rfl ?_
   refine W_nil ?_
   exact N_join _ ⟨rfl, F, (Frz.le.refl _), hS⟩ ⟨rfl, rfl, (look_bool rfl (by first | rfl | (rw [hb2]; first | done | rfl) | simp [hb2])), trivial⟩
  ·
   rcases Bool.eq_false_or_eq_true (decide (4 < (x0.length : Int))) with hb3 | hb3
   ·
    refine C_region ?_
    refine W_move rfl rfl ?_
    refine W_lenv rfl Go.Proofs.Try.underlying22 rfl h0.ln ?_
    refine W_lss rfl rfl rfl ?_
    refine W_move rfl rfl ?_
    refine W_known (t := 20) false rfl hb2 ?_
    refine W_guard_yes rfl ?_
    refine W_move rfl rfl ?_
    refine W_guard_yes rfl ?_
    refine W_lenv rfl Go.Proofs.Try.underlying22 rfl h0.ln ?_
    refine W_guard_yes rfl ?_
    refine W_gtr rfl rfl rfl ?_
    refine W_pick_f rfl rfl rfl ?_
    refine W_move rfl rfl ?_
    refine W_known (t := 25) true rfl hb3 ?_
    refine W_guard_no rfl rfl rfl rfl rfl ?_
    refine W_guard_no rfl rfl rfl rfl rfl ?_
    refine W_guard_no rfl rfl rfl rfl rfl ?_
    refine W_pick_t rfl rfl rfl ?_
    refine W_nil ?_
    exact N_join _ ⟨rfl, F, (Frz.le.refl _), hS⟩ ⟨rfl, rfl, (look_bool rfl (by first | rfl | (rw [hb2, hb3]; first | done | rfl) | simp [hb2, hb3])), trivial⟩
   ·
    refine C_region ?_
    refine W_move rfl rfl ?_
    refine W_lenv rfl Go.Proofs.Try.underlying22 rfl h0.ln ?_
    refine W_lss rfl rfl rfl ?_
    refine W_move rfl rfl ?_
    refine W_known (t := 20) false rfl hb2 ?_
    refine W_guard_yes rfl ?_
    refine W_move rfl rfl ?_
    refine W_guard_yes rfl ?_
    refine W_lenv rfl Go.Proofs.Try.underlying22 rfl h0.ln ?_
    refine W_guard_yes rfl ?_
    refine W_gtr rfl rfl rfl ?_
    refine W_pick_f rfl rfl rfl ?_
    refine W_move rfl rfl ?_
    refine W_known (t := 25) false rfl hb3 ?_
    refine W_guard_yes rfl ?_
    refine W_move rfl rfl ?_
    refine W_guard_yes rfl ?_
    refine W_lenv rfl Go.Proofs.Try.underlying22 rfl h1.ln ?_
    refine W_guard_yes rfl ?_
    refine W_gtr rfl rfl rfl ?_
    refine W_pick_f rfl rfl rfl ?_
    refine W_nil ?_
    exact N_join _ ⟨rfl, F, (Frz.le.refl _), hS⟩ ⟨rfl, rfl, (look_bool rfl (by first | rfl | (rw [hb2, hb3]; first | done | rfl) | simp [hb2, hb3])), trivial⟩
 rintro E w1 ⟨rfl, F1, le1, hS1⟩
 refine N_code ?_
 refine C_cond rfl (fun hc4 => ?_) (fun hc4 => ?_)
 ·
  rw [if_t hc4] at H
  refine C_seq ?_
  refine C_region ?_
  refine W_assign rfl rfl ?_
  refine W_nil ?_
  refine N_code ?_
  obtain rfl := Option.some.inj H
  refine C_ret rfl rfl ?_
  exact ⟨F1, rfl, hS1⟩
 ·
  rw [if_f hc4] at H
  refine C_skip ?_
  refine N_code ?_
  refine C_seq ?_
  refine C_region ?_
  refine W_assign rfl rfl ?_
  refine W_nil ?_
  refine N_code ?_
  refine C_seq_join (fun E wq => ∃ l6 : List Int, cellarerlaw22_MountsFew.k1 x1 l6 = some r ∧ ∃ (F5 : Frz) (u7 : Value), E = [(1, v1), (5, u7)] ∧ F1.le F5 ∧ St [] w F F5 [.row tI 3 u7 l6] wq) ?_ ?_
  ·
   refine C_seq ?_
   refine C_region ?_
   refine W_assign rfl rfl ?_
   refine W_nil ?_
   refine N_code ?_
   refine C_block ?_
   refine C_loopM (fun (s : (List Int) × Int) E wq => ∃ (F72 : Frz) (u74 : Value), E = [(0, v0), (1, v1), (5, u74), (6, .int .i64 s.2)] ∧ F1.le F72 ∧ St [] w F F72 [.row tI 3 u74 s.1] wq) H ?_ ?_
   ·
    have hS83 := hS1.nilRow tI 3
    exact ⟨_, ⟨F1, (.slice none 0 0), rfl, (Frz.le.refl _), hS83⟩, ⟨rfl, rfl, rfl, rfl, trivial⟩⟩
   ·
    rintro rec77 ⟨l73, i76⟩ E w72 hI H
    try dsimp only at hI
    obtain ⟨F72, u74, rfl, le72, hS72⟩ := hI
    dsimp only [cellarerlaw22_MountsFew.l7] at H
    refine C_seq ?_
    refine C_seq ?_
    refine C_region ?_
    refine W_move rfl rfl ?_
    refine W_move rfl rfl ?_
    refine W_lenv rfl Go.Proofs.Try.underlying22 rfl h0.ln ?_
    refine W_lss rfl rfl rfl ?_
    refine W_nil ?_
    refine N_code ?_
    refine C_cond rfl (fun hc78 => ?_) (fun hc78 => ?_)
    ·
     rw [if_t hc78] at H
     refine C_skip ?_
     refine N_code ?_
     refine C_seq ?_
     refine C_block ?_
     obtain ⟨l80, hl80, H⟩ := bd_some H
     refine C_region ?_
     refine W_move rfl rfl ?_
     refine W_move rfl rfl ?_
     refine W_bs (t := tI) [[.int .i64 i76]] [i76] rfl Go.Proofs.Try.underlying22 Ty.cells3 rfl rfl Ty.zero3 rfl rfl ⟨rfl, trivial⟩ rfl rfl hS72 ?_
     intro u79 w79 hS79
     refine W_appM 1 rfl Go.Proofs.Try.underlying22 Ty.row3 rfl rfl rfl rfl rfl hS79 rfl (hS79.rowSrc (j := 0) rfl) hl80 ?_
     intro v81 w81 hS81
     refine W_assign rfl rfl ?_
     refine W_nil ?_
     refine N_block ?_
     refine N_code ?_
     refine C_region ?_
     refine W_move rfl rfl ?_
     refine W_add rfl rfl rfl rfl ?_
     refine W_assign rfl rfl ?_
     refine W_nil ?_
     exact N_againM (l80, wr (i76 + 1)) _ H ⟨F72, v81, rfl, le72, hS81.pick [1] (by decide)⟩ ⟨rfl, rfl, rfl, rfl, trivial⟩
    ·
     rw [if_f hc78] at H
     refine C_exit _ rfl ?_
     exact N_join _ ⟨l73, H, ⟨F72, u74, rfl, le72, hS72⟩⟩ ⟨rfl, rfl, trivial⟩
  ·
   rintro E w5 ⟨l6, H, F5, u7, rfl, le5, hS5⟩
   dsimp only [cellarerlaw22_MountsFew.k1] at H
   refine C_seq ?_
   refine C_region ?_
   refine W_assign rfl rfl ?_
   refine W_nil ?_
   refine N_code ?_
   refine C_seq ?_
   obtain ⟨l9, hl9, H⟩ := bd_some H
   refine C_region ?_
   refine W_move rfl rfl ?_
   refine W_lenv rfl Go.Proofs.Try.underlying22 rfl (hS5.rowLn (k := 0) rfl) ?_
   refine W_mk (t := tBool) (x0 := false) rfl Go.Proofs.Try.underlying40 Ty.row4 rfl rfl rfl rfl hS5 rfl hl9 ?_
   intro v10 w10 hS10
   refine W_assign rfl rfl ?_
   refine W_nil ?_
   refine N_code ?_
   refine C_seq ?_
   refine C_region ?_
   refine W_assign rfl rfl ?_
   refine W_nil ?_
   refine N_code ?_
   refine C_seq_join (fun E wq => ∃ l12 : List Read, ∃ i15 : Int, cellarerlaw22_MountsFew.k2 x1 l6 l12 i15 = some r ∧ ∃ (F11 : Frz) (u13 : Value), E = [(1, v1), (5, u7), (7, u13), (9, .int .i64 i15)] ∧ F5.le F11 ∧ St [] w F F11 [.row tI 3 u7 l6, .row Read.t 39 u13 l12] wq) ?_ ?_
   ·
    refine C_seq ?_
    refine C_region ?_
    refine W_assign rfl rfl ?_
    refine W_nil ?_
    refine N_code ?_
    refine C_block ?_
    refine C_loopM (fun (s : (List Read) × Int × Int × (List Bool)) E wq => ∃ (F41 : Frz) (u43 : Value), E = [(1, v1), (5, u7), (7, u43), (8, v10), (9, .int .i64 s.2.1), (10, .int .i64 s.2.2.1)] ∧ F5.le F41 ∧ St [] w F F41 [.row tBool 4 v10 s.2.2.2, .row tI 3 u7 l6, .row Read.t 39 u43 s.1] wq) H ?_ ?_
    ·
     have hS71 := hS10.nilRow Read.t 39
     exact ⟨_, ⟨F5, (.slice none 0 0), rfl, (Frz.le.refl _), hS71.pick [1, 2, 0] (by decide)⟩, ⟨rfl, rfl, rfl, rfl, rfl, rfl, trivial⟩⟩
    ·
     rintro rec48 ⟨l42, i45, i46, l47⟩ E w41 hI H
     try dsimp only at hI
     obtain ⟨F41, u43, rfl, le41, hS41⟩ := hI
     dsimp only [cellarerlaw22_MountsFew.l5] at H
     refine C_seq ?_
     refine C_seq ?_
     refine C_region ?_
     refine W_move rfl rfl ?_
     refine W_move rfl rfl ?_
     refine W_lenv rfl Go.Proofs.Try.underlying22 rfl h1.ln ?_
     refine W_lss rfl rfl rfl ?_
     refine W_nil ?_
     refine N_code ?_
     refine C_cond rfl (fun hc49 => ?_) (fun hc49 => ?_)
     ·
      rw [if_t hc49] at H
      refine C_skip ?_
      refine N_code ?_
      refine C_seq ?_
      refine C_block ?_
      refine C_seq ?_
      obtain ⟨x50, hx50, H⟩ := bd_some H
      obtain ⟨x52, hx52, H⟩ := bd_some H
      refine C_region ?_
      refine W_move rfl rfl ?_
      refine W_move rfl rfl ?_
      obtain ⟨hp53, hy53⟩ := ix_some hx50
      obtain ⟨cs53, hr53, he53⟩ := (h1.mono ((le1.trans le5).trans le41)).at_ hy53
      obtain rfl := hr53
      replace he53 : Elf _ _ 1 _ _ := he53
      refine W_ix rfl Go.Proofs.Try.underlying22 Ty.cells3 Ty.info3 rfl rfl (he53.el hS41.agree) hp53 rfl ?_
      refine W_ld1 0 rfl Ty.cell3 rfl (he53.el hS41.agree) (by omega) rfl ?_
      refine W_conv rfl rfl Ty.some3 Go.Proofs.Try.underlying44 (rfl) ?_
      refine W_move rfl rfl ?_
      refine W_lenv rfl Go.Proofs.Try.underlying22 rfl (hS41.rowLn (k := 1) rfl) ?_
      refine W_conv rfl rfl Ty.some3 Go.Proofs.Try.underlying44 (rfl) ?_
      obtain ⟨hz54, hw54⟩ := rem_some hx52
      refine W_rem rfl rfl rfl hz54 hw54.symm ?_
      refine W_conv rfl rfl Ty.some44 Go.Proofs.Try.underlying3 (rfl) ?_
      refine W_assign rfl rfl ?_
      refine W_nil ?_
      refine N_code ?_
      refine C_seq_join (fun E wq => ∃ i56 : Int, ∃ l57 : List Bool, cellarerlaw22_MountsFew.k6 l42 i46 rec48 x52 i56 l57 = some r ∧ ∃ (F55 : Frz), E = [(1, v1), (5, u7), (7, u43), (8, v10), (9, .int .i64 i56), (10, .int .i64 i46), (11, .int .i64 (wr x52))] ∧ F41.le F55 ∧ St [] w F F55 [.row tBool 4 v10 l57, .row tI 3 u7 l6, .row Read.t 39 u43 l42] wq) ?_ ?_
      ·
       refine C_seq ?_
       obtain ⟨x61, hx61, H⟩ := bd_some H
       refine C_region ?_
       refine W_move rfl rfl ?_
       refine W_move rfl rfl ?_
       obtain ⟨hp63, hy63⟩ := ix_some hx61
       obtain ⟨cs63, hr63, he63⟩ := hS41.rowAt (k := 0) rfl hy63
       obtain rfl := hr63
       replace he63 : El _ _ 1 _ _ := he63
       refine W_ix rfl Go.Proofs.Try.underlying40 Ty.cells4 Ty.info4 rfl rfl he63 hp63 rfl ?_
       refine W_ld1 0 rfl Ty.cell4 rfl he63 (by omega) rfl ?_
       refine W_not rfl rfl ?_
       refine W_nil ?_
       refine N_code ?_
       refine C_cond rfl (fun hc64 => ?_) (fun hc64 => ?_)
       ·
        rw [if_t hc64] at H
        refine C_seq ?_
        obtain ⟨x65, hx65, H⟩ := bd_some H
        refine C_region ?_
        refine W_move rfl rfl ?_
        refine W_move rfl rfl ?_
        obtain ⟨hp67, hy67⟩ := ix_some hx65
        obtain ⟨cs67, hr67, he67⟩ := hS41.rowAt (k := 0) rfl hy67
        obtain rfl := hr67
        replace he67 : El _ _ 1 _ _ := he67
        refine W_ix rfl Go.Proofs.Try.underlying40 Ty.cells4 Ty.info4 rfl rfl he67 hp67 rfl ?_
        refine W_put (c := [.bool true]) 0 ((wr x52).toNat) 0 x65 true rfl rfl hS41 rfl (ix_some hx65).2 (by first | rfl | (show _ = _ * 1 + _; omega)) rfl Ty.size4 (by intro y hy; simp at hy; subst hy; rfl) (by first | decide | exact Nat.le_of_ble_eq_true rfl) (by rintro cs rfl; rfl) ?_
        intro w68 hS68
        refine W_nil ?_
        refine N_code ?_
        refine C_region ?_
        refine W_move rfl rfl ?_
        refine W_add rfl rfl rfl rfl ?_
        refine W_assign rfl rfl ?_
        refine W_nil ?_
        exact N_join _ ⟨wr (i45 + 1), (l47.set ((wr x52).toNat) true), H, ⟨F41, rfl, (Frz.le.refl _), hS68⟩⟩ ⟨rfl, rfl, rfl, rfl, rfl, rfl, rfl, trivial⟩
       ·
        rw [if_f hc64] at H
        refine C_skip ?_
        exact N_join _ ⟨i45, l47, H, ⟨F41, rfl, (Frz.le.refl _), hS41⟩⟩ ⟨rfl, rfl, rfl, rfl, rfl, rfl, rfl, trivial⟩
      ·
       rintro E w55 ⟨i56, l57, H, F55, rfl, le55, hS55⟩
       dsimp only [cellarerlaw22_MountsFew.k6] at H
       obtain ⟨l59, hl59, H⟩ := bd_some H
       refine C_region ?_
       refine W_move rfl rfl ?_
       refine W_move rfl rfl ?_
       refine W_move rfl rfl ?_
       refine W_move rfl rfl ?_
       refine W_build (v := .agg (Loc.cells (Loc.mk (wr x52) 1 i46 13)).toArray) rfl rfl (fun _ => by kernel_rfl) ?_
       refine W_build (v := .agg (Read.cells (Read.mk i46 (Loc.mk (wr x52) 1 i46 13))).toArray) rfl rfl (fun _ => by kernel_rfl) ?_
       refine W_bs (t := Read.t) [(Read.cells (Read.mk i46 (Loc.mk (wr x52) 1 i46 13)))] [(Read.mk i46 (Loc.mk (wr x52) 1 i46 13))] rfl Go.Proofs.Try.underlying23 Ty.cells39 rfl rfl Ty.zero39 rfl rfl ⟨rfl, trivial⟩ rfl rfl hS55 ?_
       intro u58 w58 hS58
       refine W_appM 3 rfl Go.Proofs.Try.underlying23 Ty.row39 rfl rfl rfl rfl rfl hS58 rfl (hS58.rowSrc (j := 0) rfl) hl59 ?_
       intro v60 w60 hS60
       refine W_assign rfl rfl ?_
       refine W_nil ?_
       refine N_block ?_
       refine N_code ?_
       refine C_region ?_
       refine W_move rfl rfl ?_
       refine W_add rfl rfl rfl rfl ?_
       refine W_assign rfl rfl ?_
       refine W_nil ?_
       exact N_againM (l59, i56, wr (i46 + 1), l57) _ H ⟨F55, v60, rfl, (le41.trans le55), hS60.pick [1, 2, 3] (by decide)⟩ ⟨rfl, rfl, rfl, rfl, rfl, rfl, trivial⟩
     ·
      rw [if_f hc49] at H
      refine C_exit _ rfl ?_
      exact N_join _ ⟨l42, i45, H, ⟨F41, u43, rfl, le41, hS41.pick [1, 2] (by decide)⟩⟩ ⟨rfl, rfl, rfl, rfl, trivial⟩
   ·
    rintro E w11 ⟨l12, i15, H, F11, u13, rfl, le11, hS11⟩
    dsimp only [cellarerlaw22_MountsFew.k2] at H
    refine C_seq ?_
    obtain ⟨r16, hr16, H⟩ := bd_some H
    refine C_region ?_
    refine W_move rfl rfl ?_
    refine W_move rfl rfl ?_
    refine W_call rfl Ty.named16 rfl (mounts_Moves_ok (now_agree _) (hS11.rowNow (k := 0) rfl) (hS11.rowNow (k := 1) rfl) hr16) ?_
    rintro v17 w17 ⟨Fr16, ur16_0, rfl, hT17⟩
    have hS17 := hS11.lentFlat hT17 ⟨fun h => h, trivial⟩
    refine W_move rfl rfl ?_
    refine W_extract rfl rfl rfl ?_
    refine W_extract rfl rfl rfl ?_
    refine W_assign rfl rfl ?_
    refine W_assign rfl rfl ?_
    refine W_nil ?_
    refine N_code ?_
    refine C_seq ?_
    obtain ⟨r19, hr19, H⟩ := bd_some H
    refine C_region ?_
    refine W_bs (t := tI) [[.int .i64 (-1)]] [(-1)] rfl Go.Proofs.Try.underlying22 Ty.cells3 rfl rfl Ty.zero3 rfl rfl ⟨rfl, trivial⟩ rfl rfl hS17 ?_
    intro u18 w18 hS18
    refine W_move rfl rfl ?_
    refine W_call rfl Ty.named16 rfl (mounts_Moves_ok (now_agree _) (hS18.rowNow (k := 0) rfl) (hS18.rowNow (k := 3) rfl) hr19) ?_
    rintro v20 w20 ⟨Fr19, ur19_0, rfl, hT20⟩
    have hS20 := hS18.lentFlat hT20 ⟨fun h => h, trivial⟩
    refine W_move rfl rfl ?_
    refine W_extract rfl rfl rfl ?_
    refine W_extract rfl rfl rfl ?_
    refine W_assign rfl rfl ?_
    refine W_assign rfl rfl ?_
    refine W_nil ?_
    refine N_code ?_
    refine C_seq ?_
    refine C_seq ?_
    obtain ⟨r21, hr21, H⟩ := bd_some H
    refine C_join (fun E wq => E = [(12, ur16_0), (119, .bool ((((decide (r16.2 ≠ 0) || decide (r19.2 ≠ 0)) || decide ((r16.1.length : Int) ≠ (x1.length : Int))) || decide ((r19.1.length : Int) ≠ wr ((x1.length : Int) + i15))) || decide (r21 ≠ wr ((x1.length : Int) + i15))))] ∧ ∃ F22 : Frz, F11.le F22 ∧ St [] w F F22 [.row Move.t 42 ur19_0 r19.1, .row tI 3 u18 [(-1)], .row Move.t 42 ur16_0 r16.1, .row tI 3 u7 l6, .row Read.t 39 u13 l12] wq) ?_ ?_
    ·
     rcases Bool.eq_false_or_eq_true (decide (r16.2 ≠ 0)) with hb23 | hb23
     ·
      refine C_region ?_
      refine W_move rfl rfl ?_
      refine W_neq rfl rfl rfl ?_
      refine W_move rfl rfl ?_
      refine W_known (t := 91) true rfl hb23 ?_
      refine W_guard_no rfl rfl rfl rfl rfl ?_
      refine W_guard_no rfl rfl rfl rfl rfl ?_
      refine W_pick_t rfl rfl rfl ?_
      refine W_move rfl rfl ?_
      refine W_guard_no rfl rfl rfl rfl rfl ?_
      refine W_guard_no rfl rfl rfl rfl rfl ?_
      refine W_guard_no rfl rfl rfl rfl rfl ?_
      refine W_guard_no rfl rfl rfl rfl rfl ?_
      refine W_guard_no rfl rfl rfl rfl rfl ?_
      refine W_pick_t rfl rfl rfl ?_
      refine W_move rfl rfl ?_
      refine W_guard_no rfl rfl rfl rfl rfl ?_
      refine W_guard_no rfl rfl rfl rfl rfl ?_
      refine W_guard_no rfl rfl rfl rfl rfl ?_
      refine W_guard_no rfl rfl rfl rfl rfl ?_
      refine W_guard_no rfl rfl rfl rfl rfl ?_
      refine W_guard_no rfl rfl rfl rfl rfl ?_
      refine W_guard_no rfl rfl rfl rfl rfl ?_
      refine W_pick_t rfl rfl rfl ?_
      refine W_move rfl rfl ?_
      refine W_guard_no rfl rfl rfl rfl rfl ?_
      refine W_guard_no rfl rfl rfl rfl rfl ?_
      refine W_guard_no rfl rfl rfl rfl rfl ?_
      refine W_guard_no rfl rfl rfl rfl rfl ?_
      refine W_guard_no rfl rfl rfl rfl rfl ?_
      refine W_guard_no rfl rfl rfl rfl rfl ?_
      refine W_guard_no rfl rfl rfl rfl rfl ?_
      refine W_pick_t rfl rfl rfl ?_
      refine W_nil ?_
      exact N_join _ ⟨rfl, F11, (Frz.le.refl _), hS20⟩ ⟨rfl, (look_bool rfl (by first | rfl | (rw [hb23]; first | done | rfl) | simp [hb23])), trivial⟩
     ·
      rcases Bool.eq_false_or_eq_true (decide (r19.2 ≠ 0)) with hb24 | hb24
      ·
       refine C_region ?_
       refine W_move rfl rfl ?_
       refine W_neq rfl rfl rfl ?_
       refine W_move rfl rfl ?_
       refine W_known (t := 91) false rfl hb23 ?_
       refine W_guard_yes rfl ?_
       refine W_move rfl rfl ?_
       refine W_guard_yes rfl ?_
       refine W_neq rfl rfl rfl ?_
       refine W_pick_f rfl rfl rfl ?_
       refine W_move rfl rfl ?_
       refine W_known (t := 95) true rfl hb24 ?_
       refine W_guard_no rfl rfl rfl rfl rfl ?_
       refine W_guard_no rfl rfl rfl rfl rfl ?_
       refine W_guard_no rfl rfl rfl rfl rfl ?_
       refine W_guard_no rfl rfl rfl rfl rfl ?_
       refine W_guard_no rfl rfl rfl rfl rfl ?_
       refine W_pick_t rfl rfl rfl ?_
       refine W_move rfl rfl ?_
       refine W_guard_no rfl rfl rfl rfl rfl ?_
       refine W_guard_no rfl rfl rfl rfl rfl ?_
       refine W_guard_no rfl rfl rfl rfl rfl ?_
       refine W_guard_no rfl rfl rfl rfl rfl ?_
       refine W_guard_no rfl rfl rfl rfl rfl ?_
       refine W_guard_no rfl rfl rfl rfl rfl ?_
       refine W_guard_no rfl rfl rfl rfl rfl ?_
       refine W_pick_t rfl rfl rfl ?_
       refine W_move rfl rfl ?_
       refine W_guard_no rfl rfl rfl rfl rfl ?_
       refine W_guard_no rfl rfl rfl rfl rfl ?_
       refine W_guard_no rfl rfl rfl rfl rfl ?_
       refine W_guard_no rfl rfl rfl rfl rfl ?_
       refine W_guard_no rfl rfl rfl rfl rfl ?_
       refine W_guard_no rfl rfl rfl rfl rfl ?_
       refine W_guard_no rfl rfl rfl rfl rfl ?_
       refine W_pick_t rfl rfl rfl ?_
       refine W_nil ?_
       exact N_join _ ⟨rfl, F11, (Frz.le.refl _), hS20⟩ ⟨rfl, (look_bool rfl (by first | rfl | (rw [hb23, hb24]; first | done | rfl) | simp [hb23, hb24])), trivial⟩
      ·
       rcases Bool.eq_false_or_eq_true (decide ((r16.1.length : Int) ≠ (x1.length : Int))) with hb25 | hb25
       ·
        refine C_region ?_
        refine W_move rfl rfl ?_
        refine W_neq rfl rfl rfl ?_
        refine W_move rfl rfl ?_
        refine W_known (t := 91) false rfl hb23 ?_
        refine W_guard_yes rfl ?_
        refine W_move rfl rfl ?_
        refine W_guard_yes rfl ?_
        refine W_neq rfl rfl rfl ?_
        refine W_pick_f rfl rfl rfl ?_
        refine W_move rfl rfl ?_
        refine W_known (t := 95) false rfl hb24 ?_
        refine W_guard_yes rfl ?_
        refine W_move rfl rfl ?_
        refine W_guard_yes rfl ?_
        refine W_lenv rfl Go.Proofs.Try.underlying25 rfl (hS20.rowLn (k := 2) rfl) ?_
        refine W_guard_yes rfl ?_
        refine W_move rfl rfl ?_
        refine W_guard_yes rfl ?_
        refine W_lenv rfl Go.Proofs.Try.underlying22 rfl h1.ln ?_
        refine W_guard_yes rfl ?_
        refine W_neq rfl rfl rfl ?_
        refine W_pick_f rfl rfl rfl ?_
        refine W_move rfl rfl ?_
        refine W_known (t := 102) true rfl hb25 ?_
        refine W_guard_no rfl rfl rfl rfl rfl ?_
        refine W_guard_no rfl rfl rfl rfl rfl ?_
        refine W_guard_no rfl rfl rfl rfl rfl ?_
        refine W_guard_no rfl rfl rfl rfl rfl ?_
        refine W_guard_no rfl rfl rfl rfl rfl ?_
        refine W_guard_no rfl rfl rfl rfl rfl ?_
        refine W_guard_no rfl rfl rfl rfl rfl ?_
        refine W_pick_t rfl rfl rfl ?_
        refine W_move rfl rfl ?_
        refine W_guard_no rfl rfl rfl rfl rfl ?_
        refine W_guard_no rfl rfl rfl rfl rfl ?_
        refine W_guard_no rfl rfl rfl rfl rfl ?_
        refine W_guard_no rfl rfl rfl rfl rfl ?_
        refine W_guard_no rfl rfl rfl rfl rfl ?_
        refine W_guard_no rfl rfl rfl rfl rfl ?_
        refine W_guard_no rfl rfl rfl rfl rfl ?_
        refine W_pick_t rfl rfl rfl ?_
        refine W_nil ?_
        exact N_join _ ⟨rfl, F11, (Frz.le.refl _), hS20⟩ ⟨rfl, (look_bool rfl (by first | rfl | (rw [hb25, hb23, hb24]; first | done | rfl) | simp [hb23, hb24, hb25])), trivial⟩
       ·
        rcases Bool.eq_false_or_eq_true (decide ((r19.1.length : Int) ≠ wr ((x1.length : Int) + i15))) with hb26 | hb26
        ·
         refine C_region ?_
         refine W_move rfl rfl ?_
         refine W_neq rfl rfl rfl ?_
         refine W_move rfl rfl ?_
         refine W_known (t := 91) false rfl hb23 ?_
         refine W_guard_yes rfl ?_
         refine W_move rfl rfl ?_
         refine W_guard_yes rfl ?_
         refine W_neq rfl rfl rfl ?_
         refine W_pick_f rfl rfl rfl ?_
         refine W_move rfl rfl ?_
         refine W_known (t := 95) false rfl hb24 ?_
         refine W_guard_yes rfl ?_
         refine W_move rfl rfl ?_
         refine W_guard_yes rfl ?_
         refine W_lenv rfl Go.Proofs.Try.underlying25 rfl (hS20.rowLn (k := 2) rfl) ?_
         refine W_guard_yes rfl ?_
         refine W_move rfl rfl ?_
         refine W_guard_yes rfl ?_
         refine W_lenv rfl Go.Proofs.Try.underlying22 rfl h1.ln ?_
         refine W_guard_yes rfl ?_
         refine W_neq rfl rfl rfl ?_
         refine W_pick_f rfl rfl rfl ?_
         refine W_move rfl rfl ?_
         refine W_known (t := 102) false rfl hb25 ?_
         refine W_guard_yes rfl ?_
         refine W_move rfl rfl ?_
         refine W_guard_yes rfl ?_
         refine W_lenv rfl Go.Proofs.Try.underlying25 rfl (hS20.rowLn (k := 0) rfl) ?_
         refine W_guard_yes rfl ?_
         refine W_move rfl rfl ?_
         refine W_guard_yes rfl ?_
         refine W_lenv rfl Go.Proofs.Try.underlying22 rfl h1.ln ?_
         refine W_guard_yes rfl ?_
         refine W_move rfl rfl ?_
         refine W_guard_yes rfl ?_
         refine W_add rfl rfl rfl rfl ?_
         refine W_guard_yes rfl ?_
         refine W_neq rfl rfl rfl ?_
         refine W_pick_f rfl rfl rfl ?_
         refine W_move rfl rfl ?_
         refine W_known (t := 111) true rfl hb26 ?_
         refine W_guard_no rfl rfl rfl rfl rfl ?_
         refine W_guard_no rfl rfl rfl rfl rfl ?_
         refine W_guard_no rfl rfl rfl rfl rfl ?_
         refine W_guard_no rfl rfl rfl rfl rfl ?_
         refine W_guard_no rfl rfl rfl rfl rfl ?_
         refine W_guard_no rfl rfl rfl rfl rfl ?_
         refine W_guard_no rfl rfl rfl rfl rfl ?_
         refine W_pick_t rfl rfl rfl ?_
         refine W_nil ?_
         exact N_join _ ⟨rfl, F11, (Frz.le.refl _), hS20⟩ ⟨rfl, (look_bool rfl (by first | rfl | (rw [hb26, hb25, hb23, hb24]; first | done | rfl) | simp [hb23, hb24, hb25, hb26])), trivial⟩
        ·
         refine C_region ?_
         refine W_move rfl rfl ?_
         refine W_neq rfl rfl rfl ?_
         refine W_move rfl rfl ?_
         refine W_known (t := 91) false rfl hb23 ?_
         refine W_guard_yes rfl ?_
         refine W_move rfl rfl ?_
         refine W_guard_yes rfl ?_
         refine W_neq rfl rfl rfl ?_
         refine W_pick_f rfl rfl rfl ?_
         refine W_move rfl rfl ?_
         refine W_known (t := 95) false rfl hb24 ?_
         refine W_guard_yes rfl ?_
         refine W_move rfl rfl ?_
         refine W_guard_yes rfl ?_
         refine W_lenv rfl Go.Proofs.Try.underlying25 rfl (hS20.rowLn (k := 2) rfl) ?_
         refine W_guard_yes rfl ?_
         refine W_move rfl rfl ?_
         refine W_guard_yes rfl ?_
         refine W_lenv rfl Go.Proofs.Try.underlying22 rfl h1.ln ?_
         refine W_guard_yes rfl ?_
         refine W_neq rfl rfl rfl ?_
         refine W_pick_f rfl rfl rfl ?_
         refine W_move rfl rfl ?_
         refine W_known (t := 102) false rfl hb25 ?_
         refine W_guard_yes rfl ?_
         refine W_move rfl rfl ?_
         refine W_guard_yes rfl ?_
         refine W_lenv rfl Go.Proofs.Try.underlying25 rfl (hS20.rowLn (k := 0) rfl) ?_
         refine W_guard_yes rfl ?_
         refine W_move rfl rfl ?_
         refine W_guard_yes rfl ?_
         refine W_lenv rfl Go.Proofs.Try.underlying22 rfl h1.ln ?_
         refine W_guard_yes rfl ?_
         refine W_move rfl rfl ?_
         refine W_guard_yes rfl ?_
         refine W_add rfl rfl rfl rfl ?_
         refine W_guard_yes rfl ?_
         refine W_neq rfl rfl rfl ?_
         refine W_pick_f rfl rfl rfl ?_
         refine W_move rfl rfl ?_
         refine W_known (t := 111) false rfl hb26 ?_
         refine W_guard_yes rfl ?_
         refine W_move rfl rfl ?_
         refine W_guard_yes rfl ?_
         have hy27 := hr21
         rw [only_t (by first | rfl | (rw [hb26, hb25, hb23, hb24]; first | done | rfl) | simp [hb23, hb24, hb25, hb26])] at hy27
         refine W_call rfl Ty.named22 rfl (mounts_Bound_ok (now_agree _) (hS20.rowNow (k := 4) rfl) hy27) ?_
         rintro v28 w28 ⟨Fr21, rfl, hT28⟩
         have hS28 := hS20.lent hT28
         refine W_guard_yes rfl ?_
         refine W_move rfl rfl ?_
         refine W_guard_yes rfl ?_
         refine W_lenv rfl Go.Proofs.Try.underlying22 rfl h1.ln ?_
         refine W_guard_yes rfl ?_
         refine W_move rfl rfl ?_
         refine W_guard_yes rfl ?_
         refine W_add rfl rfl rfl rfl ?_
         refine W_guard_yes rfl ?_
         refine W_neq rfl rfl rfl ?_
         refine W_pick_f rfl rfl rfl ?_
         refine W_nil ?_
         exact N_join _ ⟨rfl, F11, (Frz.le.refl _), hS28⟩ ⟨rfl, (look_bool rfl (by first | rfl | (rw [hb26, hb25, hb23, hb24]; first | done | rfl) | simp [hb23, hb24, hb25, hb26])), trivial⟩
    rintro E w22 ⟨rfl, F22, le22, hS22⟩
    refine N_code ?_
    refine C_cond rfl (fun hc29 => ?_) (fun hc29 => ?_)
    ·
     rw [if_t hc29] at H
     refine C_seq ?_
     refine C_region ?_
     refine W_assign rfl rfl ?_
     refine W_nil ?_
     refine N_code ?_
     obtain rfl := Option.some.inj H
     refine C_ret rfl rfl ?_
     exact ⟨F22, rfl, hS22.pick [] (by decide)⟩
    ·
     rw [if_f hc29] at H
     refine C_skip ?_
     refine N_code ?_
     refine C_seq_join (fun E wq => cellarerlaw22_MountsFew.k3 = some r ∧ ∃ (F30 : Frz), E = [] ∧ F22.le F30 ∧ St [] w F F30 [] wq) ?_ ?_
     ·
      refine C_seq ?_
      refine C_region ?_
      refine W_assign rfl rfl ?_
      refine W_nil ?_
      refine N_code ?_
      refine C_block ?_
      refine C_loopM (fun (s : Int) E wq => ∃ (F33 : Frz), E = [(12, ur16_0), (16, .int .i64 s)] ∧ F22.le F33 ∧ St [] w F F33 [.row Move.t 42 ur16_0 r16.1] wq) H ?_ ?_
      ·
       exact ⟨_, ⟨F22, rfl, (Frz.le.refl _), hS22.pick [2] (by decide)⟩, ⟨rfl, rfl, trivial⟩⟩
      ·
       rintro rec35 i34 E w33 hI H
       try dsimp only at hI
       obtain ⟨F33, rfl, le33, hS33⟩ := hI
       dsimp only [cellarerlaw22_MountsFew.l4] at H
       refine C_seq ?_
       refine C_seq ?_
       refine C_region ?_
       refine W_move rfl rfl ?_
       refine W_move rfl rfl ?_
       refine W_lenv rfl Go.Proofs.Try.underlying25 rfl (hS33.rowLn (k := 0) rfl) ?_
       refine W_lss rfl rfl rfl ?_
       refine W_nil ?_
       refine N_code ?_
       refine C_cond rfl (fun hc36 => ?_) (fun hc36 => ?_)
       ·
        rw [if_t hc36] at H
        refine C_skip ?_
        refine N_code ?_
        refine C_seq ?_
        refine C_block ?_
        refine C_seq ?_
        obtain ⟨x37, hx37, H⟩ := bd_some H
        refine C_region ?_
        refine W_move rfl rfl ?_
        refine W_move rfl rfl ?_
        obtain ⟨hp39, hy39⟩ := ix_some hx37
        obtain ⟨cs39, hr39, he39⟩ := hS33.rowAt (k := 0) rfl hy39
        obtain rfl := hr39
        replace he39 : El _ _ 7 _ _ := he39
        refine W_ix rfl Go.Proofs.Try.underlying25 Ty.cells42 Ty.info42 rfl rfl he39 hp39 rfl ?_
        refine W_fld 0 rfl Ty.field42_0 rfl he39 ?_
        refine W_ld1 0 rfl Ty.cell3 rfl he39 (by omega) rfl ?_
        refine W_neq rfl rfl rfl ?_
        refine W_nil ?_
        refine N_code ?_
        refine C_cond rfl (fun hc40 => ?_) (fun hc40 => ?_)
        ·
         rw [if_t hc40] at H
         refine C_seq ?_
         refine C_region ?_
         refine W_assign rfl rfl ?_
         refine W_nil ?_
         refine N_code ?_
         obtain rfl := Option.some.inj H
         refine C_ret rfl rfl ?_
         exact ⟨F33, rfl, hS33.pick [] (by decide)⟩
        ·
         rw [if_f hc40] at H
         refine C_skip ?_
         refine N_block ?_
         refine N_code ?_
         refine C_region ?_
         refine W_move rfl rfl ?_
         refine W_add rfl rfl rfl rfl ?_
         refine W_assign rfl rfl ?_
         refine W_nil ?_
         exact N_againM (wr (i34 + 1)) _ H ⟨F33, rfl, le33, hS33⟩ ⟨rfl, rfl, trivial⟩
       ·
        rw [if_f hc36] at H
        refine C_exit _ rfl ?_
        exact N_join _ ⟨H, ⟨F33, rfl, le33, hS33.pick [] (by decide)⟩⟩ trivial
     ·
      rintro E w30 ⟨H, F30, rfl, le30, hS30⟩
      dsimp only [cellarerlaw22_MountsFew.k3] at H
      refine C_seq ?_
      obtain ⟨r31, hr31, H⟩ := bd_some H
      refine C_region ?_
      refine W_call rfl Ty.named23 rfl (cellarerlaw22_wakes_ok hS30.agree hr31) ?_
      rintro v32 w32 ⟨Fr31, rfl, hT32⟩
      have hS32 := hS30.lent hT32
      refine W_assign rfl rfl ?_
      refine W_nil ?_
      refine N_code ?_
      obtain rfl := Option.some.inj H
      refine C_ret rfl rfl ?_
      exact ⟨F30, rfl, hS32⟩

end Go.Wk.Lf
