import Derived.Test.YtahfmkjafddjhaaLfD
namespace Go.Wk.Lf
open Go.Proofs Go.RowKit
set_option linter.unusedVariables false
set_option linter.unusedSimpArgs false

def cellarerref20_Vols.k1 (l2 : List Int) : Option (List Int) :=
  some l2


def cellarerref20_Vols.k3 (i9 : Int) (rec10 : ((List Int) × Int) → Option (List Int)) (l13 : List Int) : Option (List Int) :=
  rec10 (l13, wr (i9 + 1))


def cellarerref20_Vols.k4 (x0 : List Read) (l6 : List Int) (i9 : Int) (rec10 : ((List Int) × Int) → Option (List Int)) (b17 : Bool) : Option (List Int) :=
  if (!b17) then
    bd (ix x0 i9) fun x19 =>
    bd (app (α := Int) l6 [x19.loc.vol]) fun l22 =>
    cellarerref20_Vols.k3 i9 rec10 l22
  else
    cellarerref20_Vols.k3 i9 rec10 l6


def cellarerref20_Vols.l5 (x0 : List Read) (l6 : List Int) (i9 : Int) (rec10 : ((List Int) × Int) → Option (List Int)) (rec28 : (Bool × Int) → Option (List Int)) : (Bool × Int) → Option (List Int)
  | (b26, i27) =>
    if decide (i27 < (l6.length : Int)) then
      bd (only (!b26) (ix l6 i27) 0) fun x30 =>
      bd (only (!b26) (ix x0 i9) (Read.mk 0 (Loc.mk 0 0 0 0))) fun x32 =>
      rec28 ((b26 || decide (x30 = x32.loc.vol)), wr (i27 + 1))
    else
      cellarerref20_Vols.k4 x0 l6 i9 rec10 b26


def cellarerref20_Vols.l2 (x0 : List Read) (rec10 : ((List Int) × Int) → Option (List Int)) : ((List Int) × Int) → Option (List Int)
  | (l6, i9) =>
    if decide (i9 < (x0.length : Int)) then
      loop (cellarerref20_Vols.l5 x0 l6 i9 rec10) (false, 0)
    else
      cellarerref20_Vols.k1 l6

def cellarerref20_Vols (x0 : List Read) : Option (List Int) :=
  loop (cellarerref20_Vols.l2 x0) ([], 0)

theorem cellarerref20_Vols_ok {F : Frz} {w : World} {x0 : List Read} {r : (List Int)} {v0 : Value} (hA : Agree F w.heap) (h0 : SlF Read.t F v0 x0) (H : cellarerref20_Vols x0 = some r) : Ret Try.prog 18 #[v0] w fun v w' => ∃ (F' : Frz) (q0 : Value), v = q0 ∧ St [] w F F' [.row tI 3 q0 (r)] w' := by
 refine Ret_of (args := [v0]) Go.Proofs.Try.func18 rfl rfl ?_
 change C _ _ _ _ [(0, v0)] _
 have hS := St.entry hA
 dsimp only [cellarerref20_Vols] at H
 refine C_seq ?_
 refine C_region ?_
 refine W_assign rfl rfl ?_
 refine W_nil ?_
 refine N_code ?_
 refine C_seq ?_
 refine C_region ?_
 refine W_assign rfl rfl ?_
 refine W_nil ?_
 refine N_code ?_
 refine C_seq_join (fun E wq => ∃ l2 : List Int, cellarerref20_Vols.k1 l2 = some r ∧ ∃ (F1 : Frz) (u3 : Value), E = [(3, u3)] ∧ F.le F1 ∧ St [] w F F1 [.row tI 3 u3 l2] wq) ?_ ?_
 ·
  refine C_seq ?_
  refine C_region ?_
  refine W_assign rfl rfl ?_
  refine W_nil ?_
  refine N_code ?_
  refine C_block ?_
  refine C_loopM (fun (s : (List Int) × Int) E wq => ∃ (F5 : Frz) (u7 : Value), E = [(0, v0), (3, u7), (4, .int .i64 s.2)] ∧ F.le F5 ∧ St [] w F F5 [.row tI 3 u7 s.1] wq) H ?_ ?_
  ·
   have hS69 := hS.nilRow tI 3
   exact ⟨_, ⟨F, (.slice none 0 0), rfl, (Frz.le.refl _), hS69⟩, ⟨rfl, rfl, rfl, trivial⟩⟩
  ·
   rintro rec10 ⟨l6, i9⟩ E w5 hI H
   try dsimp only at hI
   obtain ⟨F5, u7, rfl, le5, hS5⟩ := hI
   dsimp only [cellarerref20_Vols.l2] at H
   refine C_seq ?_
   refine C_seq ?_
   refine C_region ?_
   refine W_move rfl rfl ?_
   refine W_move rfl rfl ?_
   refine W_lenv rfl Go.Proofs.Try.underlying23 rfl h0.ln ?_
   refine W_lss rfl rfl rfl ?_
   refine W_nil ?_
   refine N_code ?_
   refine C_cond rfl (fun hc11 => ?_) (fun hc11 => ?_)
   ·
    rw [if_t hc11] at H
    refine C_skip ?_
    refine N_code ?_
    refine C_seq_join (fun E wq => ∃ l13 : List Int, cellarerref20_Vols.k3 i9 rec10 l13 = some r ∧ ∃ (F12 : Frz) (u14 : Value), E = [(0, v0), (3, u14), (4, .int .i64 i9)] ∧ F5.le F12 ∧ St [] w F F12 [.row tI 3 u14 l13] wq) ?_ ?_
    ·
     refine C_block ?_
     refine C_seq ?_
     refine C_region ?_
     refine W_assign rfl rfl ?_
     refine W_nil ?_
     refine N_code ?_
     refine C_seq_join (fun E wq => ∃ b17 : Bool, cellarerref20_Vols.k4 x0 l6 i9 rec10 b17 = some r ∧ ∃ (F16 : Frz), E = [(0, v0), (3, u7), (4, .int .i64 i9), (5, .bool b17)] ∧ F5.le F16 ∧ St [] w F F16 [.row tI 3 u7 l6] wq) ?_ ?_
     ·
      refine C_seq ?_
      refine C_region ?_
      refine W_assign rfl rfl ?_
      refine W_nil ?_
      refine N_code ?_
      refine C_block ?_
      refine C_loopM (fun (s : Bool × Int) E wq => ∃ (F25 : Frz), E = [(0, v0), (3, u7), (4, .int .i64 i9), (5, .bool s.1), (6, .int .i64 s.2)] ∧ F5.le F25 ∧ St [] w F F25 [.row tI 3 u7 l6] wq) H ?_ ?_
      ·
       exact ⟨_, ⟨F5, rfl, (Frz.le.refl _), hS5⟩, ⟨rfl, rfl, rfl, rfl, rfl, trivial⟩⟩
      ·
       rintro rec28 ⟨b26, i27⟩ E w25 hI H
       try dsimp only at hI
       obtain ⟨F25, rfl, le25, hS25⟩ := hI
       dsimp only [cellarerref20_Vols.l5] at H
       refine C_seq ?_
       refine C_seq ?_
       refine C_region ?_
       refine W_move rfl rfl ?_
       refine W_move rfl rfl ?_
       refine W_lenv rfl Go.Proofs.Try.underlying22 rfl (hS25.rowLn (k := 0) rfl) ?_
       refine W_lss rfl rfl rfl ?_
       refine W_nil ?_
       refine N_code ?_
       refine C_cond rfl (fun hc29 => ?_) (fun hc29 => ?_)
       ·
        rw [if_t hc29] at H
        refine C_skip ?_
        refine N_code ?_
        refine C_seq ?_
        refine C_block ?_
        obtain ⟨x30, hx30, H⟩ := bd_some H
        obtain ⟨x32, hx32, H⟩ := bd_some H
        refine C_join (fun E wq => E = [(0, v0), (3, u7), (4, .int .i64 i9), (5, .bool (b26 || decide (x30 = x32.loc.vol))), (6, .int .i64 i27)] ∧ ∃ F34 : Frz, F25.le F34 ∧ St [] w F F34 [.row tI 3 u7 l6] wq) ?_ ?_
        ·
         rcases Bool.eq_false_or_eq_true b26 with hb35 | hb35
         ·
          apply C_draw 13 [[], [0], [1], [1], [2, 3, 1], [4, 1], [1], [1], [6, 7, 1], [8, 1], [9, 1], [10, 1], [5, 11, 1]] [.val (.bool b26), .val (.bool true), .val undef, .val undef, .val undef, .val undef, .val undef, .val undef, .val undef, .val undef, .val undef, .val undef, .val undef] Ty.mixed rfl rfl (by kernel_rfl) (by kernel_rfl) rfl
          ·
           refine ⟨?_, ?_, ?_, ?_, ?_, ?_, ?_, ?_, ?_, ?_, ?_, ?_, ?_, trivial⟩
           ·
            intro w36 vq36 hB36 hH36
            have hS36 := hS25.below hB36
            refine W_move rfl rfl ?_
            refine W_nil ?_
            exact N_step rfl rfl (Below.refl _ _)
           ·
            intro w37 vq37 hB37 hH37
            have hS37 := hS25.below hB37
            refine W_move rfl rfl ?_
            refine W_nil ?_
            exact N_step rfl (congrArg Value.bool hb35) (Below.refl _ _)
           ·
            intro w38 vq38 hB38 hH38
            have hS38 := hS25.below hB38
            refine W_guard_no rfl rfl rfl rfl rfl ?_
            refine W_nil ?_
            exact N_step rfl rfl (Below.refl _ _)
           ·
            intro w39 vq39 hB39 hH39
            have hS39 := hS25.below hB39
            refine W_guard_no rfl rfl rfl rfl rfl ?_
            refine W_nil ?_
            exact N_step rfl rfl (Below.refl _ _)
           ·
            intro w40 vq40 hB40 hH40
            have hS40 := hS25.below hB40
            refine W_guard_no rfl rfl rfl rfl rfl ?_
            refine W_nil ?_
            exact N_step rfl rfl (Below.refl _ _)
           ·
            intro w41 vq41 hB41 hH41
            have hS41 := hS25.below hB41
            refine W_guard_no rfl rfl rfl rfl rfl ?_
            refine W_nil ?_
            exact N_step rfl rfl (Below.refl _ _)
           ·
            intro w42 vq42 hB42 hH42
            have hS42 := hS25.below hB42
            refine W_guard_no rfl rfl rfl rfl rfl ?_
            refine W_nil ?_
            exact N_step rfl rfl (Below.refl _ _)
           ·
            intro w43 vq43 hB43 hH43
            have hS43 := hS25.below hB43
            refine W_guard_no rfl rfl rfl rfl rfl ?_
            refine W_nil ?_
            exact N_step rfl rfl (Below.refl _ _)
           ·
            intro w44 vq44 hB44 hH44
            have hS44 := hS25.below hB44
            refine W_guard_no rfl rfl rfl rfl rfl ?_
            refine W_nil ?_
            exact N_step rfl rfl (Below.refl _ _)
           ·
            intro w45 vq45 hB45 hH45
            have hS45 := hS25.below hB45
            refine W_guard_no rfl rfl rfl rfl rfl ?_
            refine W_nil ?_
            exact N_step rfl rfl (Below.refl _ _)
           ·
            intro w46 vq46 hB46 hH46
            have hS46 := hS25.below hB46
            refine W_guard_no rfl rfl rfl rfl rfl ?_
            refine W_nil ?_
            exact N_step rfl rfl (Below.refl _ _)
           ·
            intro w47 vq47 hB47 hH47
            have hS47 := hS25.below hB47
            refine W_guard_no rfl rfl rfl rfl rfl ?_
            refine W_nil ?_
            exact N_step rfl rfl (Below.refl _ _)
           ·
            intro w48 vq48 hB48 hH48
            have hS48 := hS25.below hB48
            refine W_guard_no rfl rfl rfl rfl rfl ?_
            refine W_nil ?_
            exact N_step rfl rfl (Below.refl _ _)
          intro w49 vq49 hB49 hH49
          have hS49 := hS25.below hB49
          refine W_pick_t rfl rfl rfl ?_
          refine W_assign rfl rfl ?_
          refine W_nil ?_
          exact N_join _ ⟨rfl, F25, (Frz.le.refl _), hS49⟩ ⟨rfl, rfl, rfl, (look_bool rfl (by first | rfl | (rw [hb35]; first | done | rfl) | simp [hb35])), rfl, trivial⟩
         ·
          have hy50 := hx30
          rw [only_t (by first | rfl | (rw [hb35]; first | done | rfl) | simp [hb35])] at hy50
          obtain ⟨hp51, hy51⟩ := ix_some hy50
          obtain ⟨cs51, hr51, he51⟩ := hS25.rowAt (k := 0) rfl hy51
          obtain rfl := hr51
          replace he51 : El _ _ 1 _ _ := he51
          have hy52 := hx32
          rw [only_t (by first | rfl | (rw [hb35]; first | done | rfl) | simp [hb35])] at hy52
          obtain ⟨hp53, hy53⟩ := ix_some hy52
          obtain ⟨cs53, hr53, he53⟩ := (h0.mono (le5.trans le25)).at_ hy53
          obtain rfl := hr53
          replace he53 : Elf _ _ 5 _ _ := he53
          apply C_draw 13 [[], [0], [1], [1], [2, 3, 1], [4, 1], [1], [1], [6, 7, 1], [8, 1], [9, 1], [10, 1], [5, 11, 1]] [.val (.bool b26), .val (.bool false), .val (u7), .val (.int .i64 i27), .val (elp u7 (i27.toNat * 1)), .val (.int .i64 x30), .val (v0), .val (.int .i64 i9), .val (elp v0 (i9.toNat * 5)), .val (elp v0 ((i9.toNat * 5) + 1)), .val (elp v0 (((i9.toNat * 5) + 1) + 0)), .val (.int .i64 x32.loc.vol), .val (.bool (decide (x30 = x32.loc.vol)))] Ty.mixed rfl rfl (by kernel_rfl) (by kernel_rfl) rfl
          ·
           refine ⟨?_, ?_, ?_, ?_, ?_, ?_, ?_, ?_, ?_, ?_, ?_, ?_, ?_, trivial⟩
           ·
            intro w54 vq54 hB54 hH54
            have hS54 := hS25.below hB54
            refine W_move rfl rfl ?_
            refine W_nil ?_
            exact N_step rfl rfl (Below.refl _ _)
           ·
            intro w55 vq55 hB55 hH55
            have hS55 := hS25.below hB55
            refine W_move rfl rfl ?_
            refine W_nil ?_
            exact N_step rfl (congrArg Value.bool hb35) (Below.refl _ _)
           ·
            intro w56 vq56 hB56 hH56
            have hS56 := hS25.below hB56
            refine W_guard_yes rfl ?_
            refine W_move rfl rfl ?_
            refine W_nil ?_
            exact N_step rfl rfl (Below.refl _ _)
           ·
            intro w57 vq57 hB57 hH57
            have hS57 := hS25.below hB57
            refine W_guard_yes rfl ?_
            refine W_move rfl rfl ?_
            refine W_nil ?_
            exact N_step rfl rfl (Below.refl _ _)
           ·
            intro w58 vq58 hB58 hH58
            have hS58 := hS25.below hB58
            refine W_guard_yes rfl ?_
            refine W_ix rfl Go.Proofs.Try.underlying22 Ty.cells3 Ty.info3 rfl rfl (he51.below hB58) hp51 rfl ?_
            refine W_nil ?_
            exact N_step rfl rfl (Below.refl _ _)
           ·
            intro w59 vq59 hB59 hH59
            have hS59 := hS25.below hB59
            refine W_guard_yes rfl ?_
            refine W_ld1 0 rfl Ty.cell3 rfl (he51.below hB59) (by omega) rfl ?_
            refine W_nil ?_
            exact N_step rfl rfl (Below.refl _ _)
           ·
            intro w60 vq60 hB60 hH60
            have hS60 := hS25.below hB60
            refine W_guard_yes rfl ?_
            refine W_move rfl rfl ?_
            refine W_nil ?_
            exact N_step rfl rfl (Below.refl _ _)
           ·
            intro w61 vq61 hB61 hH61
            have hS61 := hS25.below hB61
            refine W_guard_yes rfl ?_
            refine W_move rfl rfl ?_
            refine W_nil ?_
            exact N_step rfl rfl (Below.refl _ _)
           ·
            intro w62 vq62 hB62 hH62
            have hS62 := hS25.below hB62
            refine W_guard_yes rfl ?_
            refine W_ix rfl Go.Proofs.Try.underlying23 Ty.cells39 Ty.info39 rfl rfl (he53.el hS62.agree) hp53 rfl ?_
            refine W_nil ?_
            exact N_step rfl rfl (Below.refl _ _)
           ·
            intro w63 vq63 hB63 hH63
            have hS63 := hS25.below hB63
            refine W_guard_yes rfl ?_
            refine W_fld 1 rfl Ty.field39_1 rfl (he53.el hS63.agree) ?_
            refine W_nil ?_
            exact N_step rfl rfl (Below.refl _ _)
           ·
            intro w64 vq64 hB64 hH64
            have hS64 := hS25.below hB64
            refine W_guard_yes rfl ?_
            refine W_fld 0 rfl Ty.field37_0 rfl (he53.el hS64.agree) ?_
            refine W_nil ?_
            exact N_step rfl rfl (Below.refl _ _)
           ·
            intro w65 vq65 hB65 hH65
            have hS65 := hS25.below hB65
            refine W_guard_yes rfl ?_
            refine W_ld1 1 rfl Ty.cell3 rfl (he53.el hS65.agree) (by omega) rfl ?_
            refine W_nil ?_
            exact N_step rfl rfl (Below.refl _ _)
           ·
            intro w66 vq66 hB66 hH66
            have hS66 := hS25.below hB66
            refine W_guard_yes rfl ?_
            refine W_eql rfl rfl rfl ?_
            refine W_nil ?_
            exact N_step rfl rfl (Below.refl _ _)
          intro w67 vq67 hB67 hH67
          have hS67 := hS25.below hB67
          refine W_pick_f rfl rfl rfl ?_
          refine W_assign rfl rfl ?_
          refine W_nil ?_
          exact N_join _ ⟨rfl, F25, (Frz.le.refl _), hS67⟩ ⟨rfl, rfl, rfl, (look_bool rfl (by first | rfl | (rw [hb35]; first | done | rfl) | simp [hb35])), rfl, trivial⟩
        rintro E w34 ⟨rfl, F34, le34, hS34⟩
        refine N_block ?_
        refine N_code ?_
        refine C_region ?_
        refine W_move rfl rfl ?_
        refine W_add rfl rfl rfl rfl ?_
        refine W_assign rfl rfl ?_
        refine W_nil ?_
        exact N_againM ((b26 || decide (x30 = x32.loc.vol)), wr (i27 + 1)) _ H ⟨F34, rfl, (le25.trans le34), hS34⟩ ⟨rfl, rfl, rfl, rfl, rfl, trivial⟩
       ·
        rw [if_f hc29] at H
        refine C_exit _ rfl ?_
        exact N_join _ ⟨b26, H, ⟨F25, rfl, le25, hS25⟩⟩ ⟨rfl, rfl, rfl, rfl, trivial⟩
     ·
      rintro E w16 ⟨b17, H, F16, rfl, le16, hS16⟩
      dsimp only [cellarerref20_Vols.k4] at H
      refine C_seq ?_
      refine C_region ?_
      refine W_move rfl rfl ?_
      refine W_not rfl rfl ?_
      refine W_nil ?_
      refine N_code ?_
      refine C_cond rfl (fun hc18 => ?_) (fun hc18 => ?_)
      ·
       rw [if_t hc18] at H
       obtain ⟨x19, hx19, H⟩ := bd_some H
       obtain ⟨l22, hl22, H⟩ := bd_some H
       refine C_region ?_
       refine W_move rfl rfl ?_
       refine W_move rfl rfl ?_
       refine W_move rfl rfl ?_
       obtain ⟨hp24, hy24⟩ := ix_some hx19
       obtain ⟨cs24, hr24, he24⟩ := (h0.mono (le5.trans le16)).at_ hy24
       obtain rfl := hr24
       replace he24 : Elf _ _ 5 _ _ := he24
       refine W_ix rfl Go.Proofs.Try.underlying23 Ty.cells39 Ty.info39 rfl rfl (he24.el hS16.agree) hp24 rfl ?_
       refine W_fld 1 rfl Ty.field39_1 rfl (he24.el hS16.agree) ?_
       refine W_fld 0 rfl Ty.field37_0 rfl (he24.el hS16.agree) ?_
       refine W_ld1 1 rfl Ty.cell3 rfl (he24.el hS16.agree) (by omega) rfl ?_
       refine W_bs (t := tI) [[.int .i64 x19.loc.vol]] [x19.loc.vol] rfl Go.Proofs.Try.underlying22 Ty.cells3 rfl rfl Ty.zero3 rfl rfl ⟨rfl, trivial⟩ rfl rfl hS16 ?_
       intro u21 w21 hS21
       refine W_appM 1 rfl Go.Proofs.Try.underlying22 Ty.row3 rfl rfl rfl rfl rfl hS21 rfl (hS21.rowSrc (j := 0) rfl) hl22 ?_
       intro v23 w23 hS23
       refine W_assign rfl rfl ?_
       refine W_nil ?_
       refine N_block ?_
       exact N_join _ ⟨l22, H, ⟨F16, v23, rfl, le16, hS23.pick [1] (by decide)⟩⟩ ⟨rfl, rfl, rfl, trivial⟩
      ·
       rw [if_f hc18] at H
       refine C_skip ?_
       refine N_block ?_
       exact N_join _ ⟨l6, H, ⟨F16, u7, rfl, le16, hS16⟩⟩ ⟨rfl, rfl, rfl, trivial⟩
    ·
     rintro E w12 ⟨l13, H, F12, u14, rfl, le12, hS12⟩
     dsimp only [cellarerref20_Vols.k3] at H
     refine C_region ?_
     refine W_move rfl rfl ?_
     refine W_add rfl rfl rfl rfl ?_
     refine W_assign rfl rfl ?_
     refine W_nil ?_
     exact N_againM (l13, wr (i9 + 1)) _ H ⟨F12, u14, rfl, (le5.trans le12), hS12⟩ ⟨rfl, rfl, rfl, trivial⟩
   ·
    rw [if_f hc11] at H
    refine C_exit _ rfl ?_
    exact N_join _ ⟨l6, H, ⟨F5, u7, rfl, le5, hS5⟩⟩ ⟨rfl, trivial⟩
 ·
  rintro E w1 ⟨l2, H, F1, u3, rfl, le1, hS1⟩
  dsimp only [cellarerref20_Vols.k1] at H
  refine C_seq ?_
  refine C_region ?_
  refine W_move rfl rfl ?_
  refine W_assign rfl rfl ?_
  refine W_nil ?_
  refine N_code ?_
  obtain rfl := Option.some.inj H
  refine C_ret rfl rfl ?_
  exact ⟨F1, u3, rfl, hS1⟩

def cellarerlaw21_PlanExact.k3 : Option Bool :=
  bd (cellarerlaw21_wakes) fun r70 =>
  some r70


def cellarerlaw21_PlanExact.l4 (x0 : List Want) (l27 : List Want) (rec74 : Int → Option Bool) : Int → Option Bool
  | i73 =>
    if decide (i73 < (x0.length : Int)) then
      bd (ix l27 i73) fun x76 =>
      bd (ix x0 i73) fun x78 =>
      bd (cellarerkeep_Locs x76.locs x78.locs) fun r80 =>
      if (!r80) then
        some false
      else
        rec74 (wr (i73 + 1))
    else
      cellarerlaw21_PlanExact.k3


def cellarerlaw21_PlanExact.k2 (x0 : List Want) (x1 : List Loc) (r7 : (List Loc)) (l27 : List Want) : Option Bool :=
  bd (plan_Order l27) fun r30 =>
  bd (cellarerref20_Order x0) fun r32 =>
  bd (cellarerkeep_Reads r30.1 r32.1) fun r34 =>
  bd (only (!(!r34)) (cellarerkeep_Ints r30.2 r32.2) false) fun r35 =>
  bd (only (!((!r34) || (!r35))) (plan_Vols r30.1) []) fun r36 =>
  bd (only (!((!r34) || (!r35))) (cellarerref20_Vols r32.1) []) fun r37 =>
  bd (only (!((!r34) || (!r35))) (cellarerkeep_Ints r36 r37) false) fun r38 =>
  bd (only (!(((!r34) || (!r35)) || (!r38))) (cellarerkeep_Locs r7 x1) false) fun r39 =>
  if ((((!r34) || (!r35)) || (!r38)) || (!r39)) then
    some false
  else
    loop (cellarerlaw21_PlanExact.l4 x0 l27) 0


def cellarerlaw21_PlanExact.l5 (x0 : List Want) (x1 : List Loc) (r7 : (List Loc)) (rec102 : ((List Want) × Int) → Option Bool) : ((List Want) × Int) → Option Bool
  | (l98, i101) =>
    if decide (i101 < (x0.length : Int)) then
      bd (ix x0 i101) fun x104 =>
      bd (cellarerkeep_TwinLocs x104.locs) fun r106 =>
      bd (app (α := Want) l98 [(Want.mk x104.id r106)]) fun l110 =>
      rec102 (l110, wr (i101 + 1))
    else
      cellarerlaw21_PlanExact.k2 x0 x1 r7 l98


def cellarerlaw21_PlanExact.k1 (x0 : List Want) (x1 : List Loc) (r7 : (List Loc)) : Option Bool :=
  bd (plan_Sort r7) fun r10 =>
  bd (cellarerref20_Sort x1) fun r12 =>
  bd (cellarerkeep_Locs r10 r12) fun r13 =>
  bd (only (!(!r13)) (cellarerkeep_Locs r7 x1) false) fun r14 =>
  if ((!r13) || (!r14)) then
    some false
  else
    bd (cellarerkeep_SpoilLocs r10) fun r24 =>
    loop (cellarerlaw21_PlanExact.l5 x0 x1 r7) ([], 0)


def cellarerlaw21_PlanExact.l6 (x0 : List Want) (x1 : List Loc) (r7 : (List Loc)) (rec137 : Int → Option Bool) : Int → Option Bool
  | i136 =>
    if decide (wr (i136 + 1) < (x1.length : Int)) then
      bd (ix x1 i136) fun x139 =>
      bd (ix x1 (wr (i136 + 1))) fun x141 =>
      bd (plan_Ahead x139 x141) fun r143 =>
      bd (cellarerref18_Ahead x139 x141) fun r144 =>
      if (r143 != r144) then
        some false
      else
        rec137 (wr (i136 + 1))
    else
      cellarerlaw21_PlanExact.k1 x0 x1 r7

def cellarerlaw21_PlanExact (x0 : List Want) (x1 : List Loc) : Option Bool :=
  bd (cellarerlaw21_Heavy x0) fun r1 =>
  if (r1 || decide (60 < (x1.length : Int))) then
    some true
  else
    bd (cellarerkeep_TwinLocs x1) fun r7 =>
    loop (cellarerlaw21_PlanExact.l6 x0 x1 r7) 0

theorem cellarerlaw21_PlanExact_ok {F : Frz} {w : World} {x0 : List Want} {x1 : List Loc} {r : Bool} {v0 : Value} {v1 : Value} (hA : Agree F w.heap) (h0 : SlF Want.t F v0 x0) (h1 : SlF Loc.t F v1 x1) (H : cellarerlaw21_PlanExact x0 x1 = some r) : Ret Try.prog 12 #[v0, v1] w fun v w' => ∃ (F' : Frz), v = .bool r ∧ St [] w F F' [] w' := by
 refine Ret_of (args := [v0, v1]) Go.Proofs.Try.func12 rfl rfl ?_
 change C _ _ _ _ [(0, v0), (1, v1)] _
 have hS := St.entry hA
 dsimp only [cellarerlaw21_PlanExact] at H
 refine C_seq ?_
 refine C_region ?_
 refine W_assign rfl rfl ?_
 refine W_nil ?_
 refine N_code ?_
 refine C_seq ?_
 refine C_seq ?_
 obtain ⟨r1, hr1, H⟩ := bd_some H
 refine C_join (fun E wq => E = [(0, v0), (1, v1), (21, .bool (r1 || decide (60 < (x1.length : Int))))] ∧ ∃ F2 : Frz, F.le F2 ∧ St [] w F F2 [] wq) ?_ ?_
 ·
  rcases Bool.eq_false_or_eq_true r1 with hb3 | hb3
  ·
   refine C_region ?_
   refine W_move rfl rfl ?_
   refine W_call rfl Ty.named26 rfl (cellarerlaw21_Heavy_ok hS.agree h0 hr1) ?_
   rintro v4 w4 ⟨Fr1, rfl, hT4⟩
   have hS4 := hS.lent hT4
   refine W_move rfl rfl ?_
   refine W_known (t := 17) true rfl hb3 ?_
   refine W_guard_no rfl rfl rfl rfl rfl ?_
   refine W_guard_no rfl rfl rfl rfl rfl ?_
   refine W_guard_no rfl rfl rfl rfl rfl ?_
   refine W_pick_t rfl rfl rfl ?_
   refine W_nil ?_
   exact N_join _ ⟨rfl, F, (Frz.le.refl _), hS4⟩ ⟨rfl, rfl, (look_bool rfl (by first | rfl | (rw [hb3]; first | done | rfl) | simp [hb3])), trivial⟩
  ·
   refine C_region ?_
   refine W_move rfl rfl ?_
   refine W_call rfl Ty.named26 rfl (cellarerlaw21_Heavy_ok hS.agree h0 hr1) ?_
   rintro v5 w5 ⟨Fr1, rfl, hT5⟩
   have hS5 := hS.lent hT5
   refine W_move rfl rfl ?_
   refine W_known (t := 17) false rfl hb3 ?_
   refine W_guard_yes rfl ?_
   refine W_move rfl rfl ?_
   refine W_guard_yes rfl ?_
   refine W_lenv rfl Go.Proofs.Try.underlying49 rfl h1.ln ?_
   refine W_guard_yes rfl ?_
   refine W_gtr rfl rfl rfl ?_
   refine W_pick_f rfl rfl rfl ?_
   refine W_nil ?_
   exact N_join _ ⟨rfl, F, (Frz.le.refl _), hS5⟩ ⟨rfl, rfl, (look_bool rfl (by first | rfl | (rw [hb3]; first | done | rfl) | simp [hb3])), trivial⟩
 rintro E w2 ⟨rfl, F2, le2, hS2⟩
 refine N_code ?_
 refine C_cond rfl (fun hc6 => ?_) (fun hc6 => ?_)
 ·
  rw [if_t hc6] at H
  refine C_seq ?_
  refine C_region ?_
  refine W_assign rfl rfl ?_
  refine W_nil ?_
  refine N_code ?_
  obtain rfl := Option.some.inj H
  refine C_ret rfl rfl ?_
  exact ⟨F2, rfl, hS2⟩
 ·
  rw [if_f hc6] at H
  refine C_skip ?_
  refine N_code ?_
  refine C_seq ?_
  obtain ⟨r7, hr7, H⟩ := bd_some H
  refine C_region ?_
  refine W_move rfl rfl ?_
  refine W_call rfl Ty.named33 rfl (cellarerkeep_TwinLocs_ok hS2.agree (h1.mono le2) hr7) ?_
  rintro ur7_0 w8 ⟨Fr7, _, rfl, hT8⟩
  have hS8 := hS2.call hT8
  have ler7 := hT8.ext
  refine W_assign rfl rfl ?_
  refine W_nil ?_
  refine N_code ?_
  refine C_seq_join (fun E wq => cellarerlaw21_PlanExact.k1 x0 x1 r7 = some r ∧ ∃ (F9 : Frz), E = [(0, v0), (1, v1), (5, ur7_0)] ∧ Fr7.le F9 ∧ St [] w F F9 [.row Loc.t 37 ur7_0 r7] wq) ?_ ?_
  ·
   refine C_seq ?_
   refine C_region ?_
   refine W_assign rfl rfl ?_
   refine W_nil ?_
   refine N_code ?_
   refine C_block ?_
   refine C_loopM (fun (s : Int) E wq => ∃ (F135 : Frz), E = [(0, v0), (1, v1), (5, ur7_0), (6, .int .i64 s)] ∧ Fr7.le F135 ∧ St [] w F F135 [.row Loc.t 37 ur7_0 r7] wq) H ?_ ?_
   ·
    exact ⟨_, ⟨Fr7, rfl, (Frz.le.refl _), hS8⟩, ⟨rfl, rfl, rfl, rfl, trivial⟩⟩
   ·
    rintro rec137 i136 E w135 hI H
    try dsimp only at hI
    obtain ⟨F135, rfl, le135, hS135⟩ := hI
    dsimp only [cellarerlaw21_PlanExact.l6] at H
    refine C_seq ?_
    refine C_seq ?_
    refine C_region ?_
    refine W_move rfl rfl ?_
    refine W_add rfl rfl rfl rfl ?_
    refine W_move rfl rfl ?_
    refine W_lenv rfl Go.Proofs.Try.underlying49 rfl h1.ln ?_
    refine W_lss rfl rfl rfl ?_
    refine W_nil ?_
    refine N_code ?_
    refine C_cond rfl (fun hc138 => ?_) (fun hc138 => ?_)
    ·
     rw [if_t hc138] at H
     refine C_skip ?_
     refine N_code ?_
     refine C_seq ?_
     refine C_block ?_
     refine C_seq ?_
     obtain ⟨x139, hx139, H⟩ := bd_some H
     obtain ⟨x141, hx141, H⟩ := bd_some H
     obtain ⟨r143, hr143, H⟩ := bd_some H
     obtain ⟨r144, hr144, H⟩ := bd_some H
     obtain ⟨hp145, hy145⟩ := ix_some hx139
     obtain ⟨cs145, hr145, he145⟩ := (h1.mono ((le2.trans ler7).trans le135)).at_ hy145
     obtain rfl := hr145
     replace he145 : Elf _ _ 4 _ _ := he145
     obtain ⟨hp146, hy146⟩ := ix_some hx141
     obtain ⟨cs146, hr146, he146⟩ := (h1.mono ((le2.trans ler7).trans le135)).at_ hy146
     obtain rfl := hr146
     replace he146 : Elf _ _ 4 _ _ := he146
     apply C_draw 20 [[], [], [0, 1], [2], [], [], [5], [4, 6], [7], [3, 8], [], [], [10, 11], [12], [], [], [15], [14, 16], [17], [13, 18]] [.val (v1), .val (.int .i64 i136), .val (elp v1 (i136.toNat * 4)), .val (.agg (Loc.cells x139).toArray), .val (v1), .val (.int .i64 i136), .val (.int .i64 (wr (i136 + 1))), .val (elp v1 ((wr (i136 + 1)).toNat * 4)), .val (.agg (Loc.cells x141).toArray), .val (.bool r143), .val (v1), .val (.int .i64 i136), .val (elp v1 (i136.toNat * 4)), .val (.agg (Loc.cells x139).toArray), .val (v1), .val (.int .i64 i136), .val (.int .i64 (wr (i136 + 1))), .val (elp v1 ((wr (i136 + 1)).toNat * 4)), .val (.agg (Loc.cells x141).toArray), .val (.bool r144)] Ty.mixed rfl rfl (by kernel_rfl) (by kernel_rfl) rfl
     ·
      refine ⟨?_, ?_, ?_, ?_, ?_, ?_, ?_, ?_, ?_, ?_, ?_, ?_, ?_, ?_, ?_, ?_, ?_, ?_, ?_, ?_, trivial⟩
      ·
       intro w147 vq147 hB147 hH147
       have hS147 := hS135.below hB147
       refine W_move rfl rfl ?_
       refine W_nil ?_
       exact N_step rfl rfl (Below.refl _ _)
      ·
       intro w148 vq148 hB148 hH148
       have hS148 := hS135.below hB148
       refine W_move rfl rfl ?_
       refine W_nil ?_
       exact N_step rfl rfl (Below.refl _ _)
      ·
       intro w149 vq149 hB149 hH149
       have hS149 := hS135.below hB149
       refine W_ix rfl Go.Proofs.Try.underlying49 Ty.cells37 Ty.info37 rfl rfl (he145.el hS149.agree) hp145 rfl ?_
       refine W_nil ?_
       exact N_step rfl rfl (Below.refl _ _)
      ·
       intro w150 vq150 hB150 hH150
       have hS150 := hS135.below hB150
       refine W_ldg 0 ((Loc.cells x139)) rfl Ty.agg37 Ty.size37 rfl (he145.el hS150.agree) (by omega) (fun q u h => sub_at (post := []) rfl h) ?_
       refine W_nil ?_
       exact N_step rfl rfl (Below.refl _ _)
      ·
       intro w151 vq151 hB151 hH151
       have hS151 := hS135.below hB151
       refine W_move rfl rfl ?_
       refine W_nil ?_
       exact N_step rfl rfl (Below.refl _ _)
      ·
       intro w152 vq152 hB152 hH152
       have hS152 := hS135.below hB152
       refine W_move rfl rfl ?_
       refine W_nil ?_
       exact N_step rfl rfl (Below.refl _ _)
      ·
       intro w153 vq153 hB153 hH153
       have hS153 := hS135.below hB153
       refine W_add rfl rfl rfl rfl ?_
       refine W_nil ?_
       exact N_step rfl rfl (Below.refl _ _)
      ·
       intro w154 vq154 hB154 hH154
       have hS154 := hS135.below hB154
       refine W_ix rfl Go.Proofs.Try.underlying49 Ty.cells37 Ty.info37 rfl rfl (he146.el hS154.agree) hp146 rfl ?_
       refine W_nil ?_
       exact N_step rfl rfl (Below.refl _ _)
      ·
       intro w155 vq155 hB155 hH155
       have hS155 := hS135.below hB155
       refine W_ldg 0 ((Loc.cells x141)) rfl Ty.agg37 Ty.size37 rfl (he146.el hS155.agree) (by omega) (fun q u h => sub_at (post := []) rfl h) ?_
       refine W_nil ?_
       exact N_step rfl rfl (Below.refl _ _)
      ·
       intro w156 vq156 hB156 hH156
       have hS156 := hS135.below hB156
       refine W_call rfl Ty.named31 rfl (plan_Ahead_ok hS156.agree hr143) ?_
       rintro v157 w157 ⟨Fr143, rfl, hT157⟩
       have hS157 := hS156.lent hT157
       refine W_nil ?_
       exact N_step rfl rfl hT157.below0
      ·
       intro w158 vq158 hB158 hH158
       have hS158 := hS135.below hB158
       refine W_move rfl rfl ?_
       refine W_nil ?_
       exact N_step rfl rfl (Below.refl _ _)
      ·
       intro w159 vq159 hB159 hH159
       have hS159 := hS135.below hB159
       refine W_move rfl rfl ?_
       refine W_nil ?_
       exact N_step rfl rfl (Below.refl _ _)
      ·
       intro w160 vq160 hB160 hH160
       have hS160 := hS135.below hB160
       refine W_ix rfl Go.Proofs.Try.underlying49 Ty.cells37 Ty.info37 rfl rfl (he145.el hS160.agree) hp145 rfl ?_
       refine W_nil ?_
       exact N_step rfl rfl (Below.refl _ _)
      ·
       intro w161 vq161 hB161 hH161
       have hS161 := hS135.below hB161
       refine W_ldg 0 ((Loc.cells x139)) rfl Ty.agg37 Ty.size37 rfl (he145.el hS161.agree) (by omega) (fun q u h => sub_at (post := []) rfl h) ?_
       refine W_nil ?_
       exact N_step rfl rfl (Below.refl _ _)
      ·
       intro w162 vq162 hB162 hH162
       have hS162 := hS135.below hB162
       refine W_move rfl rfl ?_
       refine W_nil ?_
       exact N_step rfl rfl (Below.refl _ _)
      ·
       intro w163 vq163 hB163 hH163
       have hS163 := hS135.below hB163
       refine W_move rfl rfl ?_
       refine W_nil ?_
       exact N_step rfl rfl (Below.refl _ _)
      ·
       intro w164 vq164 hB164 hH164
       have hS164 := hS135.below hB164
       refine W_add rfl rfl rfl rfl ?_
       refine W_nil ?_
       exact N_step rfl rfl (Below.refl _ _)
      ·
       intro w165 vq165 hB165 hH165
       have hS165 := hS135.below hB165
       refine W_ix rfl Go.Proofs.Try.underlying49 Ty.cells37 Ty.info37 rfl rfl (he146.el hS165.agree) hp146 rfl ?_
       refine W_nil ?_
       exact N_step rfl rfl (Below.refl _ _)
      ·
       intro w166 vq166 hB166 hH166
       have hS166 := hS135.below hB166
       refine W_ldg 0 ((Loc.cells x141)) rfl Ty.agg37 Ty.size37 rfl (he146.el hS166.agree) (by omega) (fun q u h => sub_at (post := []) rfl h) ?_
       refine W_nil ?_
       exact N_step rfl rfl (Below.refl _ _)
      ·
       intro w167 vq167 hB167 hH167
       have hS167 := hS135.below hB167
       refine W_call rfl Ty.named34 rfl (cellarerref18_Ahead_ok hS167.agree hr144) ?_
       rintro v168 w168 ⟨Fr144, rfl, hT168⟩
       have hS168 := hS167.lent hT168
       refine W_nil ?_
       exact N_step rfl rfl hT168.below0
     intro w169 vq169 hB169 hH169
     have hS169 := hS135.below hB169
     refine W_neqb rfl Go.Proofs.Try.underlying4 rfl rfl ?_
     refine W_nil ?_
     refine N_code ?_
     refine C_cond rfl (fun hc170 => ?_) (fun hc170 => ?_)
     ·
      rw [if_t hc170] at H
      refine C_seq ?_
      refine C_region ?_
      refine W_assign rfl rfl ?_
      refine W_nil ?_
      refine N_code ?_
      obtain rfl := Option.some.inj H
      refine C_ret rfl rfl ?_
      exact ⟨F135, rfl, hS169.pick [] (by decide)⟩
     ·
      rw [if_f hc170] at H
      refine C_skip ?_
      refine N_block ?_
      refine N_code ?_
      refine C_region ?_
      refine W_move rfl rfl ?_
      refine W_add rfl rfl rfl rfl ?_
      refine W_assign rfl rfl ?_
      refine W_nil ?_
      exact N_againM (wr (i136 + 1)) _ H ⟨F135, rfl, le135, hS169⟩ ⟨rfl, rfl, rfl, rfl, trivial⟩
    ·
     rw [if_f hc138] at H
     refine C_exit _ rfl ?_
     exact N_join _ ⟨H, ⟨F135, rfl, le135, hS135⟩⟩ ⟨rfl, rfl, rfl, trivial⟩
  ·
   rintro E w9 ⟨H, F9, rfl, le9, hS9⟩
   dsimp only [cellarerlaw21_PlanExact.k1] at H
   refine C_seq ?_
   obtain ⟨r10, hr10, H⟩ := bd_some H
   refine C_region ?_
   refine W_move rfl rfl ?_
   refine W_call rfl Ty.named29 rfl (plan_Sort_ok (now_agree _) (hS9.rowNow (k := 0) rfl) hr10) ?_
   rintro ur10_0 w11 ⟨Fr10, _, rfl, hT11⟩
   have hS11 := hS9.lentFlat hT11 ⟨fun h => h, trivial⟩
   refine W_assign rfl rfl ?_
   refine W_nil ?_
   refine N_code ?_
   refine C_seq ?_
   refine C_seq ?_
   obtain ⟨r12, hr12, H⟩ := bd_some H
   obtain ⟨r13, hr13, H⟩ := bd_some H
   obtain ⟨r14, hr14, H⟩ := bd_some H
   refine C_join (fun E wq => E = [(0, v0), (1, v1), (5, ur7_0), (7, ur10_0), (64, .bool ((!r13) || (!r14)))] ∧ ∃ F15 : Frz, F9.le F15 ∧ St [] w F F15 [.row Loc.t 37 ur10_0 r10, .row Loc.t 37 ur7_0 r7] wq) ?_ ?_
   ·
    rcases Bool.eq_false_or_eq_true (!r13) with hb16 | hb16
    ·
     refine C_region ?_
     refine W_move rfl rfl ?_
     refine W_move rfl rfl ?_
     refine W_call rfl Ty.named35 rfl (cellarerref20_Sort_ok hS11.agree (h1.mono ((le2.trans ler7).trans le9)) hr12) ?_
     rintro ur12_0 w17 ⟨Fr12, _, rfl, hT17⟩
     have hS17 := hS11.call hT17
     have ler12 := hT17.ext
     refine W_call rfl Ty.named28 rfl (cellarerkeep_Locs_ok (now_agree _) (hS17.rowNow (k := 1) rfl) (hS17.rowNow (k := 0) rfl) hr13) ?_
     rintro v18 w18 ⟨Fr13, rfl, hT18⟩
     have hS18 := hS17.lent hT18
     refine W_not rfl rfl ?_
     refine W_move rfl rfl ?_
     refine W_known (t := 59) true rfl hb16 ?_
     refine W_guard_no rfl rfl rfl rfl rfl ?_
     refine W_guard_no rfl rfl rfl rfl rfl ?_
     refine W_guard_no rfl rfl rfl rfl rfl ?_
     refine W_guard_no rfl rfl rfl rfl rfl ?_
     refine W_pick_t rfl rfl rfl ?_
     refine W_nil ?_
     exact N_join _ ⟨rfl, Fr12, ler12, hS18.pick [1, 2] (by decide)⟩ ⟨rfl, rfl, rfl, rfl, (look_bool rfl (by first | rfl | (rw [hb16]; first | done | rfl) | simp [hb16])), trivial⟩
    ·
     refine C_region ?_
     refine W_move rfl rfl ?_
     refine W_move rfl rfl ?_
     refine W_call rfl Ty.named35 rfl (cellarerref20_Sort_ok hS11.agree (h1.mono ((le2.trans ler7).trans le9)) hr12) ?_
     rintro ur12_0 w19 ⟨Fr12, _, rfl, hT19⟩
     have hS19 := hS11.call hT19
     have ler12 := hT19.ext
     refine W_call rfl Ty.named28 rfl (cellarerkeep_Locs_ok (now_agree _) (hS19.rowNow (k := 1) rfl) (hS19.rowNow (k := 0) rfl) hr13) ?_
     rintro v20 w20 ⟨Fr13, rfl, hT20⟩
     have hS20 := hS19.lent hT20
     refine W_not rfl rfl ?_
     refine W_move rfl rfl ?_
     refine W_known (t := 59) false rfl hb16 ?_
     refine W_guard_yes rfl ?_
     refine W_move rfl rfl ?_
     refine W_guard_yes rfl ?_
     refine W_move rfl rfl ?_
     refine W_guard_yes rfl ?_
     have hy21 := hr14
     rw [only_t (by first | rfl | (rw [hb16]; first | done | rfl) | simp [hb16])] at hy21
     refine W_call rfl Ty.named28 rfl (cellarerkeep_Locs_ok (now_agree _) (hS20.rowNow (k := 2) rfl) ((h1.mono (((le2.trans ler7).trans le9).trans ler12)).mono hS20.agree) hy21) ?_
     rintro v22 w22 ⟨Fr14, rfl, hT22⟩
     have hS22 := hS20.lent hT22
     refine W_guard_yes rfl ?_
     refine W_not rfl rfl ?_
     refine W_pick_f rfl rfl rfl ?_
     refine W_nil ?_
     exact N_join _ ⟨rfl, Fr12, ler12, hS22.pick [1, 2] (by decide)⟩ ⟨rfl, rfl, rfl, rfl, (look_bool rfl (by first | rfl | (rw [hb16]; first | done | rfl) | simp [hb16])), trivial⟩
   rintro E w15 ⟨rfl, F15, le15, hS15⟩
   refine N_code ?_
   refine C_cond rfl (fun hc23 => ?_) (fun hc23 => ?_)
   ·
    rw [if_t hc23] at H
    refine C_seq ?_
    refine C_region ?_
    refine W_assign rfl rfl ?_
    refine W_nil ?_
    refine N_code ?_
    obtain rfl := Option.some.inj H
    refine C_ret rfl rfl ?_
    exact ⟨F15, rfl, hS15.pick [] (by decide)⟩
   ·
    rw [if_f hc23] at H
    refine C_skip ?_
    refine N_code ?_
    refine C_seq ?_
    obtain ⟨r24, hr24, H⟩ := bd_some H
    refine C_region ?_
    refine W_move rfl rfl ?_
    refine W_call rfl Ty.named36 rfl (cellarerkeep_SpoilLocs_ok (hS15.lendRow 0 rfl) hr24) ?_
    rintro v25 w25 ⟨Fr24, rfl, hT25⟩
    have hS25 := hS15.backRow 0 [1] rfl (by decide) (by decide) hT25
    have ler24 := hT25.ext
    refine W_nil ?_
    refine N_code ?_
    refine C_seq ?_
    refine C_region ?_
    refine W_assign rfl rfl ?_
    refine W_nil ?_
    refine N_code ?_
    refine C_seq_join (fun E wq => ∃ l27 : List Want, cellarerlaw21_PlanExact.k2 x0 x1 r7 l27 = some r ∧ ∃ (F26 : Frz) (u28 : Value), E = [(0, v0), (1, v1), (5, ur7_0), (8, u28)] ∧ Fr24.le F26 ∧ St [] w F F26 [.row Loc.t 37 ur7_0 r7, .row Want.t 52 u28 l27] wq) ?_ ?_
    ·
     refine C_seq ?_
     refine C_region ?_
     refine W_assign rfl rfl ?_
     refine W_nil ?_
     refine N_code ?_
     refine C_block ?_
     refine C_loopM (fun (s : (List Want) × Int) E wq => ∃ (F97 : Frz) (u99 : Value), E = [(0, v0), (1, v1), (5, ur7_0), (8, u99), (9, .int .i64 s.2)] ∧ Fr24.le F97 ∧ St [] w F F97 [.row Loc.t 37 ur7_0 r7, .row Want.t 52 u99 s.1] wq) H ?_ ?_
     ·
      have hS134 := hS25.nilRow Want.t 52
      exact ⟨_, ⟨Fr24, (.slice none 0 0), rfl, (Frz.le.refl _), hS134.pick [2, 0] (by decide)⟩, ⟨rfl, rfl, rfl, rfl, rfl, trivial⟩⟩
     ·
      rintro rec102 ⟨l98, i101⟩ E w97 hI H
      try dsimp only at hI
      obtain ⟨F97, u99, rfl, le97, hS97⟩ := hI
      dsimp only [cellarerlaw21_PlanExact.l5] at H
      refine C_seq ?_
      refine C_seq ?_
      refine C_region ?_
      refine W_move rfl rfl ?_
      refine W_move rfl rfl ?_
      refine W_lenv rfl Go.Proofs.Try.underlying47 rfl h0.ln ?_
      refine W_lss rfl rfl rfl ?_
      refine W_nil ?_
      refine N_code ?_
      refine C_cond rfl (fun hc103 => ?_) (fun hc103 => ?_)
      ·
       rw [if_t hc103] at H
       refine C_skip ?_
       refine N_code ?_
       refine C_seq ?_
       refine C_block ?_
       obtain ⟨x104, hx104, H⟩ := bd_some H
       obtain ⟨r106, hr106, H⟩ := bd_some H
       obtain ⟨l110, hl110, H⟩ := bd_some H
       obtain ⟨hp112, hy112⟩ := ix_some hx104
       obtain ⟨cs112, hr112, he112⟩ := (h0.mono (((((le2.trans ler7).trans le9).trans le15).trans ler24).trans le97)).at_ hy112
       obtain ⟨ue105_0, rfl, hle105_0, hue105_0⟩ := hr112
       replace he112 : Elf _ _ 33 _ _ := he112
       apply C_draw 14 [[], [], [], [1, 2], [3], [4], [], [], [6, 7], [8], [9], [10], [5, 11], [12]] [.val (u99), .val (v0), .val (.int .i64 i101), .val (elp v0 (i101.toNat * 33)), .val (elp v0 ((i101.toNat * 33) + 0)), .val (.agg (idCells x104.id).toArray), .val (v0), .val (.int .i64 i101), .val (elp v0 (i101.toNat * 33)), .val (elp v0 ((i101.toNat * 33) + 32)), .val (ue105_0), .pred (fun v wr => ∃ Fr106, (∃ ur106_0 : Value, v = ur106_0 ∧ SlF Loc.t Fr106 ur106_0 r106) ∧ St [] w97 F97 Fr106 [] wr) stable_ex, .pred (fun v wr => ∃ Fy107, (∃ uy107_1 : Value, v = .agg (Want.cells (Want.mk x104.id r106) uy107_1).toArray ∧ SlF Loc.t Fy107 uy107_1 r106 ∧ (x104.id).length = 32) ∧ St [] w97 F97 Fy107 [] wr) stable_ex, .pred (fun v wr => ∃ Fy109, (∃ uy109_0 : Value, v = uy109_0 ∧ SlF Want.t Fy109 uy109_0 [(Want.mk x104.id r106)]) ∧ St [] w97 F97 Fy109 [] wr) stable_ex] Ty.mixed rfl rfl (by kernel_rfl) (by kernel_rfl) rfl
       ·
        refine ⟨?_, ?_, ?_, ?_, ?_, ?_, ?_, ?_, ?_, ?_, ?_, ?_, ?_, ?_, trivial⟩
        ·
         intro w113 vq113 hB113 hH113
         have hS113 := hS97.below hB113
         refine W_move rfl rfl ?_
         refine W_nil ?_
         exact N_step rfl rfl (Below.refl _ _)
        ·
         intro w114 vq114 hB114 hH114
         have hS114 := hS97.below hB114
         refine W_move rfl rfl ?_
         refine W_nil ?_
         exact N_step rfl rfl (Below.refl _ _)
        ·
         intro w115 vq115 hB115 hH115
         have hS115 := hS97.below hB115
         refine W_move rfl rfl ?_
         refine W_nil ?_
         exact N_step rfl rfl (Below.refl _ _)
        ·
         intro w116 vq116 hB116 hH116
         have hS116 := hS97.below hB116
         refine W_ix rfl Go.Proofs.Try.underlying47 Ty.cells52 Ty.info52 rfl rfl (he112.el hS116.agree) hp112 rfl ?_
         refine W_nil ?_
         exact N_step rfl rfl (Below.refl _ _)
        ·
         intro w117 vq117 hB117 hH117
         have hS117 := hS97.below hB117
         refine W_fld 0 rfl Ty.field52_0 rfl (he112.el hS117.agree) ?_
         refine W_nil ?_
         exact N_step rfl rfl (Below.refl _ _)
        ·
         intro w118 vq118 hB118 hH118
         have hS118 := hS97.below hB118
         refine W_ldg 0 ((idCells x104.id)) rfl Ty.agg50 Ty.size50 rfl (he112.el hS118.agree) (by omega) (fun q u h => sub_at (post := [ue105_0]) rfl h) ?_
         refine W_nil ?_
         exact N_step rfl rfl (Below.refl _ _)
        ·
         intro w119 vq119 hB119 hH119
         have hS119 := hS97.below hB119
         refine W_move rfl rfl ?_
         refine W_nil ?_
         exact N_step rfl rfl (Below.refl _ _)
        ·
         intro w120 vq120 hB120 hH120
         have hS120 := hS97.below hB120
         refine W_move rfl rfl ?_
         refine W_nil ?_
         exact N_step rfl rfl (Below.refl _ _)
        ·
         intro w121 vq121 hB121 hH121
         have hS121 := hS97.below hB121
         refine W_ix rfl Go.Proofs.Try.underlying47 Ty.cells52 Ty.info52 rfl rfl (he112.el hS121.agree) hp112 rfl ?_
         refine W_nil ?_
         exact N_step rfl rfl (Below.refl _ _)
        ·
         intro w122 vq122 hB122 hH122
         have hS122 := hS97.below hB122
         refine W_fld 32 rfl Ty.field52_1 rfl (he112.el hS122.agree) ?_
         refine W_nil ?_
         exact N_step rfl rfl (Below.refl _ _)
        ·
         intro w123 vq123 hB123 hH123
         have hS123 := hS97.below hB123
         refine W_ld1 32 rfl Ty.cell49 rfl (he112.el hS123.agree) (by omega) rfl ?_
         refine W_nil ?_
         exact N_step rfl rfl (Below.refl _ _)
        ·
         intro w124 vq124 hB124 hH124
         have hS124 := hS97.below hB124
         refine W_call rfl Ty.named33 rfl (cellarerkeep_TwinLocs_ok hS124.agree hue105_0 hr106) ?_
         rintro ur106_0 w125 ⟨Fr106, _, rfl, hT125⟩
         have hS125 := (St.from hS97.agree hB124).call hT125
         obtain ⟨F126, le126, hf126, hS126⟩ := hS125.freeze 0 [] rfl (by decide) (by decide)
         refine W_nil ?_
         exact N_step rfl ⟨F126, ⟨ur106_0, rfl, hf126⟩, hS126⟩ hT125.below0
        ·
         intro w127 vq127 hB127 hH127
         obtain ⟨_, ⟨Fr106, ⟨ur106_0, he127_11, hfr106_0⟩, hTcr106⟩, _⟩ := hH127
         have hS127 := hS97.call hTcr106
         have le127 := hTcr106.ext
         refine W_eqv (t := 84) rfl he127_11 ?_
         obtain ⟨ao128, m128, c128, hu128⟩ := hfr106_0.ln.form
         refine W_build (v := .agg (Want.cells (Want.mk x104.id r106) ur106_0).toArray) rfl rfl (fun _ => by rw [hu128]; kernel_rfl) ?_
         refine W_nil ?_
         exact N_step rfl ⟨Fr106, ⟨ur106_0, rfl, hfr106_0, hle105_0⟩, hTcr106⟩ (Below.refl _ _)
        ·
         intro w129 vq129 hB129 hH129
         obtain ⟨⟨Fy107, ⟨uy107_1, he129_12, hfy107_1, hly107_0⟩, hTcy107⟩, _⟩ := hH129
         have hS129 := hS97.call hTcy107
         have le129 := hTcy107.ext
         refine W_eqv (t := 85) rfl he129_12 ?_
         refine W_bs (t := Want.t) [(Want.cells (Want.mk x104.id r106) uy107_1)] [(Want.mk x104.id r106)] rfl Go.Proofs.Try.underlying47 Ty.cells52 rfl rfl Ty.zero52 rfl rfl ⟨⟨uy107_1, rfl, hly107_0, hfy107_1⟩, trivial⟩ rfl rfl (St.entry hS129.agree) ?_
         intro u108 w108 hT108
         have hS108 := hTcy107.call hT108
         obtain ⟨F108, le108, hf108, hS108⟩ := hS108.freeze 0 [] rfl (by decide) (by decide)
         refine W_nil ?_
         exact N_step rfl ⟨F108, ⟨u108, rfl, hf108⟩, hS108⟩ hT108.below0
       intro w130 vq130 hB130 hH130
       obtain ⟨_, _, _, _, _, _, _, _, _, _, _, ⟨Fr106, ⟨ur106_0, he130_11, hfr106_0⟩, hTcr106⟩, ⟨Fy107, ⟨uy107_1, he130_12, hfy107_1, hly107_0⟩, hTcy107⟩, ⟨Fy109, ⟨uy109_0, he130_13, hfy109_0⟩, hTcy109⟩, _⟩ := hH130
       obtain ⟨F131, la131, lb131, hm131⟩ := hTcr106.merge hTcy107
       replace hfr106_0 := hfr106_0.mono la131
       replace hfy107_1 := hfy107_1.mono lb131
       obtain ⟨F132, la132, lb132, hm132⟩ := hm131.merge hTcy109
       replace hfr106_0 := hfr106_0.mono la132
       replace hfy107_1 := hfy107_1.mono la132
       replace hfy109_0 := hfy109_0.mono lb132
       have hS130 := hS97.call hm132
       have le130 := hm132.ext
       refine W_eqv (t := 84) rfl he130_11 ?_
       refine W_eqv (t := 85) rfl he130_12 ?_
       refine W_eqv (t := 86) rfl he130_13 ?_
       refine W_appM 1 rfl Go.Proofs.Try.underlying47 Ty.row52 rfl rfl rfl rfl rfl hS130 rfl (hfy109_0.src hS130.agree) hl110 ?_
       intro v111 w111 hS111
       refine W_assign rfl rfl ?_
       refine W_nil ?_
       refine N_block ?_
       refine N_code ?_
       refine C_region ?_
       refine W_move rfl rfl ?_
       refine W_add rfl rfl rfl rfl ?_
       refine W_assign rfl rfl ?_
       refine W_nil ?_
       exact N_againM (l110, wr (i101 + 1)) _ H ⟨F132, v111, rfl, (le97.trans le130), hS111⟩ ⟨rfl, rfl, rfl, rfl, rfl, trivial⟩
      ·
       rw [if_f hc103] at H
       refine C_exit _ rfl ?_
       exact N_join _ ⟨l98, H, ⟨F97, u99, rfl, le97, hS97⟩⟩ ⟨rfl, rfl, rfl, rfl, trivial⟩
    ·
     rintro E w26 ⟨l27, H, F26, u28, rfl, le26, hS26⟩
     dsimp only [cellarerlaw21_PlanExact.k2] at H
     refine C_seq ?_
     obtain ⟨r30, hr30, H⟩ := bd_some H
     refine C_region ?_
     refine W_move rfl rfl ?_
     refine W_call rfl Ty.named27 rfl (plan_Order_ok (now_agree _) (hS26.rowNow (k := 1) rfl) hr30) ?_
     rintro v31 w31 ⟨Fr30, ur30_0, ur30_1, rfl, hT31⟩
     have hS31 := hS26.lentFlat hT31 ⟨fun h => h, ⟨fun h => h, trivial⟩⟩
     refine W_move rfl rfl ?_
     refine W_extract rfl rfl rfl ?_
     refine W_extract rfl rfl rfl ?_
     refine W_assign rfl rfl ?_
     refine W_assign rfl rfl ?_
     refine W_nil ?_
     refine N_code ?_
     refine C_seq ?_
     obtain ⟨r32, hr32, H⟩ := bd_some H
     refine C_region ?_
     refine W_move rfl rfl ?_
     refine W_call rfl Ty.named37 rfl (cellarerref20_Order_ok hS31.agree (h0.mono (((((le2.trans ler7).trans le9).trans le15).trans ler24).trans le26)) hr32) ?_
     rintro v33 w33 ⟨Fr32, ur32_0, ur32_1, rfl, hT33⟩
     have hS33 := hS31.call hT33
     have ler32 := hT33.ext
     refine W_move rfl rfl ?_
     refine W_extract rfl rfl rfl ?_
     refine W_extract rfl rfl rfl ?_
     refine W_assign rfl rfl ?_
     refine W_assign rfl rfl ?_
     refine W_nil ?_
     refine N_code ?_
     refine C_seq ?_
     refine C_seq ?_
     obtain ⟨r34, hr34, H⟩ := bd_some H
     obtain ⟨r35, hr35, H⟩ := bd_some H
     obtain ⟨r36, hr36, H⟩ := bd_some H
     obtain ⟨r37, hr37, H⟩ := bd_some H
     obtain ⟨r38, hr38, H⟩ := bd_some H
     obtain ⟨r39, hr39, H⟩ := bd_some H
     refine C_join (fun E wq => E = [(0, v0), (8, u28), (121, .bool ((((!r34) || (!r35)) || (!r38)) || (!r39)))] ∧ ∃ F40 : Frz, Fr32.le F40 ∧ St [] w F F40 [.row Read.t 39 ur32_0 r32.1, .row tI 3 ur32_1 r32.2, .row Read.t 39 ur30_0 r30.1, .row tI 3 ur30_1 r30.2, .row Loc.t 37 ur7_0 r7, .row Want.t 52 u28 l27] wq) ?_ ?_
     ·
      rcases Bool.eq_false_or_eq_true (!r34) with hb41 | hb41
      ·
       refine C_region ?_
       refine W_move rfl rfl ?_
       refine W_move rfl rfl ?_
       refine W_call rfl Ty.named21 rfl (cellarerkeep_Reads_ok (now_agree _) (hS33.rowNow (k := 2) rfl) (hS33.rowNow (k := 0) rfl) hr34) ?_
       rintro v42 w42 ⟨Fr34, rfl, hT42⟩
       have hS42 := hS33.lent hT42
       refine W_not rfl rfl ?_
       refine W_move rfl rfl ?_
       refine W_known (t := 102) true rfl hb41 ?_
       refine W_guard_no rfl rfl rfl rfl rfl ?_
       refine W_guard_no rfl rfl rfl rfl rfl ?_
       refine W_guard_no rfl rfl rfl rfl rfl ?_
       refine W_guard_no rfl rfl rfl rfl rfl ?_
       refine W_pick_t rfl rfl rfl ?_
       refine W_move rfl rfl ?_
       refine W_guard_no rfl rfl rfl rfl rfl ?_
       refine W_guard_no rfl rfl rfl rfl rfl ?_
       refine W_guard_no rfl rfl rfl rfl rfl ?_
       refine W_guard_no rfl rfl rfl rfl rfl ?_
       refine W_guard_no rfl rfl rfl rfl rfl ?_
       refine W_guard_no rfl rfl rfl rfl rfl ?_
       refine W_pick_t rfl rfl rfl ?_
       refine W_move rfl rfl ?_
       refine W_guard_no rfl rfl rfl rfl rfl ?_
       refine W_guard_no rfl rfl rfl rfl rfl ?_
       refine W_guard_no rfl rfl rfl rfl rfl ?_
       refine W_guard_no rfl rfl rfl rfl rfl ?_
       refine W_pick_t rfl rfl rfl ?_
       refine W_nil ?_
       exact N_join _ ⟨rfl, Fr32, (Frz.le.refl _), hS42⟩ ⟨rfl, rfl, (look_bool rfl (by first | rfl | (rw [hb41]; first | done | rfl) | simp [hb41])), trivial⟩
      ·
       rcases Bool.eq_false_or_eq_true (!r35) with hb43 | hb43
       ·
        refine C_region ?_
        refine W_move rfl rfl ?_
        refine W_move rfl rfl ?_
        refine W_call rfl Ty.named21 rfl (cellarerkeep_Reads_ok (now_agree _) (hS33.rowNow (k := 2) rfl) (hS33.rowNow (k := 0) rfl) hr34) ?_
        rintro v44 w44 ⟨Fr34, rfl, hT44⟩
        have hS44 := hS33.lent hT44
        refine W_not rfl rfl ?_
        refine W_move rfl rfl ?_
        refine W_known (t := 102) false rfl hb41 ?_
        refine W_guard_yes rfl ?_
        refine W_move rfl rfl ?_
        refine W_guard_yes rfl ?_
        refine W_move rfl rfl ?_
        refine W_guard_yes rfl ?_
        have hy45 := hr35
        rw [only_t (by first | rfl | (rw [hb41]; first | done | rfl) | simp [hb41, hb43])] at hy45
        refine W_call rfl Ty.named20 rfl (cellarerkeep_Ints_ok (now_agree _) (hS44.rowNow (k := 3) rfl) (hS44.rowNow (k := 1) rfl) hy45) ?_
        rintro v46 w46 ⟨Fr35, rfl, hT46⟩
        have hS46 := hS44.lent hT46
        refine W_guard_yes rfl ?_
        refine W_not rfl rfl ?_
        refine W_pick_f rfl rfl rfl ?_
        refine W_move rfl rfl ?_
        refine W_known (t := 108) true rfl hb43 ?_
        refine W_guard_no rfl rfl rfl rfl rfl ?_
        refine W_guard_no rfl rfl rfl rfl rfl ?_
        refine W_guard_no rfl rfl rfl rfl rfl ?_
        refine W_guard_no rfl rfl rfl rfl rfl ?_
        refine W_guard_no rfl rfl rfl rfl rfl ?_
        refine W_guard_no rfl rfl rfl rfl rfl ?_
        refine W_pick_t rfl rfl rfl ?_
        refine W_move rfl rfl ?_
        refine W_guard_no rfl rfl rfl rfl rfl ?_
        refine W_guard_no rfl rfl rfl rfl rfl ?_
        refine W_guard_no rfl rfl rfl rfl rfl ?_
        refine W_guard_no rfl rfl rfl rfl rfl ?_
        refine W_pick_t rfl rfl rfl ?_
        refine W_nil ?_
        exact N_join _ ⟨rfl, Fr32, (Frz.le.refl _), hS46⟩ ⟨rfl, rfl, (look_bool rfl (by first | rfl | (rw [hb41, hb43]; first | done | rfl) | simp [hb41, hb43])), trivial⟩
       ·
        rcases Bool.eq_false_or_eq_true (!r38) with hb47 | hb47
        ·
         refine C_region ?_
         refine W_move rfl rfl ?_
         refine W_move rfl rfl ?_
         refine W_call rfl Ty.named21 rfl (cellarerkeep_Reads_ok (now_agree _) (hS33.rowNow (k := 2) rfl) (hS33.rowNow (k := 0) rfl) hr34) ?_
         rintro v48 w48 ⟨Fr34, rfl, hT48⟩
         have hS48 := hS33.lent hT48
         refine W_not rfl rfl ?_
         refine W_move rfl rfl ?_
         refine W_known (t := 102) false rfl hb41 ?_
         refine W_guard_yes rfl ?_
         refine W_move rfl rfl ?_
         refine W_guard_yes rfl ?_
         refine W_move rfl rfl ?_
         refine W_guard_yes rfl ?_
         have hy49 := hr35
         rw [only_t (by first | rfl | (rw [hb41]; first | done | rfl) | simp [hb41, hb43, hb47])] at hy49
         refine W_call rfl Ty.named20 rfl (cellarerkeep_Ints_ok (now_agree _) (hS48.rowNow (k := 3) rfl) (hS48.rowNow (k := 1) rfl) hy49) ?_
         rintro v50 w50 ⟨Fr35, rfl, hT50⟩
         have hS50 := hS48.lent hT50
         refine W_guard_yes rfl ?_
         refine W_not rfl rfl ?_
         refine W_pick_f rfl rfl rfl ?_
         refine W_move rfl rfl ?_
         refine W_known (t := 108) false rfl hb43 ?_
         refine W_guard_yes rfl ?_
         refine W_move rfl rfl ?_
         refine W_guard_yes rfl ?_
         have hy51 := hr36
         rw [only_t (by first | rfl | (rw [hb41, hb43]; first | done | rfl) | simp [hb41, hb43, hb47])] at hy51
         refine W_call rfl Ty.named32 rfl (plan_Vols_ok (now_agree _) (hS50.rowNow (k := 2) rfl) hy51) ?_
         rintro ur36_0 w52 ⟨Fr36, _, rfl, hT52⟩
         have hS52 := hS50.lentFlat hT52 ⟨fun h => h, trivial⟩
         refine W_guard_yes rfl ?_
         refine W_move rfl rfl ?_
         refine W_guard_yes rfl ?_
         have hy53 := hr37
         rw [only_t (by first | rfl | (rw [hb41, hb43]; first | done | rfl) | simp [hb41, hb43, hb47])] at hy53
         refine W_call rfl Ty.named18 rfl (cellarerref20_Vols_ok (now_agree _) (hS52.rowNow (k := 1) rfl) hy53) ?_
         rintro ur37_0 w54 ⟨Fr37, _, rfl, hT54⟩
         have hS54 := hS52.lentFlat hT54 ⟨fun h => h, trivial⟩
         refine W_guard_yes rfl ?_
         have hy55 := hr38
         rw [only_t (by first | rfl | (rw [hb41, hb43]; first | done | rfl) | simp [hb41, hb43, hb47])] at hy55
         refine W_call rfl Ty.named20 rfl (cellarerkeep_Ints_ok (now_agree _) (hS54.rowNow (k := 1) rfl) (hS54.rowNow (k := 0) rfl) hy55) ?_
         rintro v56 w56 ⟨Fr38, rfl, hT56⟩
         have hS56 := hS54.lent hT56
         refine W_guard_yes rfl ?_
         refine W_not rfl rfl ?_
         refine W_pick_f rfl rfl rfl ?_
         refine W_move rfl rfl ?_
         refine W_known (t := 116) true rfl hb47 ?_
         refine W_guard_no rfl rfl rfl rfl rfl ?_
         refine W_guard_no rfl rfl rfl rfl rfl ?_
         refine W_guard_no rfl rfl rfl rfl rfl ?_
         refine W_guard_no rfl rfl rfl rfl rfl ?_
         refine W_pick_t rfl rfl rfl ?_
         refine W_nil ?_
         exact N_join _ ⟨rfl, Fr32, (Frz.le.refl _), hS56.pick [2, 3, 4, 5, 6, 7] (by decide)⟩ ⟨rfl, rfl, (look_bool rfl (by first | rfl | (rw [hb41, hb43, hb47]; first | done | rfl) | simp [hb41, hb43, hb47])), trivial⟩
        ·
         refine C_region ?_
         refine W_move rfl rfl ?_
         refine W_move rfl rfl ?_
         refine W_call rfl Ty.named21 rfl (cellarerkeep_Reads_ok (now_agree _) (hS33.rowNow (k := 2) rfl) (hS33.rowNow (k := 0) rfl) hr34) ?_
         rintro v57 w57 ⟨Fr34, rfl, hT57⟩
         have hS57 := hS33.lent hT57
         refine W_not rfl rfl ?_
         refine W_move rfl rfl ?_
         refine W_known (t := 102) false rfl hb41 ?_
         refine W_guard_yes rfl ?_
         refine W_move rfl rfl ?_
         refine W_guard_yes rfl ?_
         refine W_move rfl rfl ?_
         refine W_guard_yes rfl ?_
         have hy58 := hr35
         rw [only_t (by first | rfl | (rw [hb41]; first | done | rfl) | simp [hb41, hb43, hb47])] at hy58
         refine W_call rfl Ty.named20 rfl (cellarerkeep_Ints_ok (now_agree _) (hS57.rowNow (k := 3) rfl) (hS57.rowNow (k := 1) rfl) hy58) ?_
         rintro v59 w59 ⟨Fr35, rfl, hT59⟩
         have hS59 := hS57.lent hT59
         refine W_guard_yes rfl ?_
         refine W_not rfl rfl ?_
         refine W_pick_f rfl rfl rfl ?_
         refine W_move rfl rfl ?_
         refine W_known (t := 108) false rfl hb43 ?_
         refine W_guard_yes rfl ?_
         refine W_move rfl rfl ?_
         refine W_guard_yes rfl ?_
         have hy60 := hr36
         rw [only_t (by first | rfl | (rw [hb41, hb43]; first | done | rfl) | simp [hb41, hb43, hb47])] at hy60
         refine W_call rfl Ty.named32 rfl (plan_Vols_ok (now_agree _) (hS59.rowNow (k := 2) rfl) hy60) ?_
         rintro ur36_0 w61 ⟨Fr36, _, rfl, hT61⟩
         have hS61 := hS59.lentFlat hT61 ⟨fun h => h, trivial⟩
         refine W_guard_yes rfl ?_
         refine W_move rfl rfl ?_
         refine W_guard_yes rfl ?_
         have hy62 := hr37
         rw [only_t (by first | rfl | (rw [hb41, hb43]; first | done | rfl) | simp [hb41, hb43, hb47])] at hy62
         refine W_call rfl Ty.named18 rfl (cellarerref20_Vols_ok (now_agree _) (hS61.rowNow (k := 1) rfl) hy62) ?_
         rintro ur37_0 w63 ⟨Fr37, _, rfl, hT63⟩
         have hS63 := hS61.lentFlat hT63 ⟨fun h => h, trivial⟩
         refine W_guard_yes rfl ?_
         have hy64 := hr38
         rw [only_t (by first | rfl | (rw [hb41, hb43]; first | done | rfl) | simp [hb41, hb43, hb47])] at hy64
         refine W_call rfl Ty.named20 rfl (cellarerkeep_Ints_ok (now_agree _) (hS63.rowNow (k := 1) rfl) (hS63.rowNow (k := 0) rfl) hy64) ?_
         rintro v65 w65 ⟨Fr38, rfl, hT65⟩
         have hS65 := hS63.lent hT65
         refine W_guard_yes rfl ?_
         refine W_not rfl rfl ?_
         refine W_pick_f rfl rfl rfl ?_
         refine W_move rfl rfl ?_
         refine W_known (t := 116) false rfl hb47 ?_
         refine W_guard_yes rfl ?_
         refine W_move rfl rfl ?_
         refine W_guard_yes rfl ?_
         refine W_move rfl rfl ?_
         refine W_guard_yes rfl ?_
         have hy66 := hr39
         rw [only_t (by first | rfl | (rw [hb41, hb43, hb47]; first | done | rfl) | simp [hb41, hb43, hb47])] at hy66
         refine W_call rfl Ty.named28 rfl (cellarerkeep_Locs_ok (now_agree _) (hS65.rowNow (k := 6) rfl) ((h1.mono ((((((le2.trans ler7).trans le9).trans le15).trans ler24).trans le26).trans ler32)).mono hS65.agree) hy66) ?_
         rintro v67 w67 ⟨Fr39, rfl, hT67⟩
         have hS67 := hS65.lent hT67
         refine W_guard_yes rfl ?_
         refine W_not rfl rfl ?_
         refine W_pick_f rfl rfl rfl ?_
         refine W_nil ?_
         exact N_join _ ⟨rfl, Fr32, (Frz.le.refl _), hS67.pick [2, 3, 4, 5, 6, 7] (by decide)⟩ ⟨rfl, rfl, (look_bool rfl (by first | rfl | (rw [hb41, hb43, hb47]; first | done | rfl) | simp [hb41, hb43, hb47])), trivial⟩
     rintro E w40 ⟨rfl, F40, le40, hS40⟩
     refine N_code ?_
     refine C_cond rfl (fun hc68 => ?_) (fun hc68 => ?_)
     ·
      rw [if_t hc68] at H
      refine C_seq ?_
      refine C_region ?_
      refine W_assign rfl rfl ?_
      refine W_nil ?_
      refine N_code ?_
      obtain rfl := Option.some.inj H
      refine C_ret rfl rfl ?_
      exact ⟨F40, rfl, hS40.pick [] (by decide)⟩
     ·
      rw [if_f hc68] at H
      refine C_skip ?_
      refine N_code ?_
      refine C_seq_join (fun E wq => cellarerlaw21_PlanExact.k3 = some r ∧ ∃ (F69 : Frz), E = [] ∧ F40.le F69 ∧ St [] w F F69 [] wq) ?_ ?_
      ·
       refine C_seq ?_
       refine C_region ?_
       refine W_assign rfl rfl ?_
       refine W_nil ?_
       refine N_code ?_
       refine C_block ?_
       refine C_loopM (fun (s : Int) E wq => ∃ (F72 : Frz), E = [(0, v0), (8, u28), (14, .int .i64 s)] ∧ F40.le F72 ∧ St [] w F F72 [.row Want.t 52 u28 l27] wq) H ?_ ?_
       ·
        exact ⟨_, ⟨F40, rfl, (Frz.le.refl _), hS40.pick [5] (by decide)⟩, ⟨rfl, rfl, rfl, trivial⟩⟩
       ·
        rintro rec74 i73 E w72 hI H
        try dsimp only at hI
        obtain ⟨F72, rfl, le72, hS72⟩ := hI
        dsimp only [cellarerlaw21_PlanExact.l4] at H
        refine C_seq ?_
        refine C_seq ?_
        refine C_region ?_
        refine W_move rfl rfl ?_
        refine W_move rfl rfl ?_
        refine W_lenv rfl Go.Proofs.Try.underlying47 rfl h0.ln ?_
        refine W_lss rfl rfl rfl ?_
        refine W_nil ?_
        refine N_code ?_
        refine C_cond rfl (fun hc75 => ?_) (fun hc75 => ?_)
        ·
         rw [if_t hc75] at H
         refine C_skip ?_
         refine N_code ?_
         refine C_seq ?_
         refine C_block ?_
         refine C_seq ?_
         obtain ⟨x76, hx76, H⟩ := bd_some H
         obtain ⟨x78, hx78, H⟩ := bd_some H
         obtain ⟨r80, hr80, H⟩ := bd_some H
         obtain ⟨hp81, hy81⟩ := ix_some hx76
         obtain ⟨cs81, hr81, he81⟩ := hS72.rowAt (k := 0) rfl hy81
         obtain ⟨ue77_0, rfl, hle77_0, hue77_0⟩ := hr81
         replace he81 : El _ _ 33 _ _ := he81
         obtain ⟨hp82, hy82⟩ := ix_some hx78
         obtain ⟨cs82, hr82, he82⟩ := (h0.mono ((((((((le2.trans ler7).trans le9).trans le15).trans ler24).trans le26).trans ler32).trans le40).trans le72)).at_ hy82
         obtain ⟨ue79_0, rfl, hle79_0, hue79_0⟩ := hr82
         replace he82 : Elf _ _ 33 _ _ := he82
         apply C_draw 11 [[], [], [0, 1], [2], [3], [], [], [5, 6], [7], [8], [4, 9]] [.val (u28), .val (.int .i64 i73), .val (elp u28 (i73.toNat * 33)), .val (elp u28 ((i73.toNat * 33) + 32)), .val (ue77_0), .val (v0), .val (.int .i64 i73), .val (elp v0 (i73.toNat * 33)), .val (elp v0 ((i73.toNat * 33) + 32)), .val (ue79_0), .val (.bool r80)] Ty.mixed rfl rfl (by kernel_rfl) (by kernel_rfl) rfl
         ·
          refine ⟨?_, ?_, ?_, ?_, ?_, ?_, ?_, ?_, ?_, ?_, ?_, trivial⟩
          ·
           intro w83 vq83 hB83 hH83
           have hS83 := hS72.below hB83
           refine W_move rfl rfl ?_
           refine W_nil ?_
           exact N_step rfl rfl (Below.refl _ _)
          ·
           intro w84 vq84 hB84 hH84
           have hS84 := hS72.below hB84
           refine W_move rfl rfl ?_
           refine W_nil ?_
           exact N_step rfl rfl (Below.refl _ _)
          ·
           intro w85 vq85 hB85 hH85
           have hS85 := hS72.below hB85
           refine W_ix rfl Go.Proofs.Try.underlying47 Ty.cells52 Ty.info52 rfl rfl (he81.below hB85) hp81 rfl ?_
           refine W_nil ?_
           exact N_step rfl rfl (Below.refl _ _)
          ·
           intro w86 vq86 hB86 hH86
           have hS86 := hS72.below hB86
           refine W_fld 32 rfl Ty.field52_1 rfl (he81.below hB86) ?_
           refine W_nil ?_
           exact N_step rfl rfl (Below.refl _ _)
          ·
           intro w87 vq87 hB87 hH87
           have hS87 := hS72.below hB87
           refine W_ld1 32 rfl Ty.cell49 rfl (he81.below hB87) (by omega) rfl ?_
           refine W_nil ?_
           exact N_step rfl rfl (Below.refl _ _)
          ·
           intro w88 vq88 hB88 hH88
           have hS88 := hS72.below hB88
           refine W_move rfl rfl ?_
           refine W_nil ?_
           exact N_step rfl rfl (Below.refl _ _)
          ·
           intro w89 vq89 hB89 hH89
           have hS89 := hS72.below hB89
           refine W_move rfl rfl ?_
           refine W_nil ?_
           exact N_step rfl rfl (Below.refl _ _)
          ·
           intro w90 vq90 hB90 hH90
           have hS90 := hS72.below hB90
           refine W_ix rfl Go.Proofs.Try.underlying47 Ty.cells52 Ty.info52 rfl rfl (he82.el hS90.agree) hp82 rfl ?_
           refine W_nil ?_
           exact N_step rfl rfl (Below.refl _ _)
          ·
           intro w91 vq91 hB91 hH91
           have hS91 := hS72.below hB91
           refine W_fld 32 rfl Ty.field52_1 rfl (he82.el hS91.agree) ?_
           refine W_nil ?_
           exact N_step rfl rfl (Below.refl _ _)
          ·
           intro w92 vq92 hB92 hH92
           have hS92 := hS72.below hB92
           refine W_ld1 32 rfl Ty.cell49 rfl (he82.el hS92.agree) (by omega) rfl ?_
           refine W_nil ?_
           exact N_step rfl rfl (Below.refl _ _)
          ·
           intro w93 vq93 hB93 hH93
           have hS93 := hS72.below hB93
           refine W_call rfl Ty.named28 rfl (cellarerkeep_Locs_ok hS93.agree hue77_0 hue79_0 hr80) ?_
           rintro v94 w94 ⟨Fr80, rfl, hT94⟩
           have hS94 := hS93.lent hT94
           refine W_nil ?_
           exact N_step rfl rfl hT94.below0
         intro w95 vq95 hB95 hH95
         have hS95 := hS72.below hB95
         refine W_not rfl rfl ?_
         refine W_nil ?_
         refine N_code ?_
         refine C_cond rfl (fun hc96 => ?_) (fun hc96 => ?_)
         ·
          rw [if_t hc96] at H
          refine C_seq ?_
          refine C_region ?_
          refine W_assign rfl rfl ?_
          refine W_nil ?_
          refine N_code ?_
          obtain rfl := Option.some.inj H
          refine C_ret rfl rfl ?_
          exact ⟨F72, rfl, hS95.pick [] (by decide)⟩
         ·
          rw [if_f hc96] at H
          refine C_skip ?_
          refine N_block ?_
          refine N_code ?_
          refine C_region ?_
          refine W_move rfl rfl ?_
          refine W_add rfl rfl rfl rfl ?_
          refine W_assign rfl rfl ?_
          refine W_nil ?_
          exact N_againM (wr (i73 + 1)) _ H ⟨F72, rfl, le72, hS95⟩ ⟨rfl, rfl, rfl, trivial⟩
        ·
         rw [if_f hc75] at H
         refine C_exit _ rfl ?_
         exact N_join _ ⟨H, ⟨F72, rfl, le72, hS72.pick [] (by decide)⟩⟩ trivial
      ·
       rintro E w69 ⟨H, F69, rfl, le69, hS69⟩
       dsimp only [cellarerlaw21_PlanExact.k3] at H
       refine C_seq ?_
       obtain ⟨r70, hr70, H⟩ := bd_some H
       refine C_region ?_
       refine W_call rfl Ty.named30 rfl (cellarerlaw21_wakes_ok hS69.agree hr70) ?_
       rintro v71 w71 ⟨Fr70, rfl, hT71⟩
       have hS71 := hS69.lent hT71
       refine W_assign rfl rfl ?_
       refine W_nil ?_
       refine N_code ?_
       obtain rfl := Option.some.inj H
       refine C_ret rfl rfl ?_
       exact ⟨F69, rfl, hS71⟩

def cellarerlaw21_PlanTurns.k1 (x0 : List Want) (l5 : List Want) (l8 : List Loc) (l11 : List Loc) : Option Bool :=
  bd (plan_Order x0) fun r14 =>
  bd (plan_Order l5) fun r16 =>
  bd (cellarerkeep_Reads r14.1 r16.1) fun r18 =>
  bd (only r18 (cellarerkeep_Ints r14.2 r16.2) false) fun r19 =>
  bd (only (r18 && r19) (plan_Sort l8) []) fun r20 =>
  bd (only (r18 && r19) (plan_Sort l11) []) fun r21 =>
  bd (only (r18 && r19) (cellarerkeep_Locs r20 r21) false) fun r22 =>
  bd (only ((r18 && r19) && r22) (cellarerlaw21_wakes) false) fun r23 =>
  some (((r18 && r19) && r22) && r23)


def cellarerlaw21_PlanTurns.k3 (i62 : Int) (rec63 : ((List Want) × (List Loc) × (List Loc) × Int) → Option Bool) (l66 : List Want) (l69 : List Loc) (l72 : List Loc) : Option Bool :=
  rec63 (l66, l69, l72, wr (i62 + 1))


def cellarerlaw21_PlanTurns.k4 (x0 : List Want) (l53 : List Want) (l56 : List Loc) (l59 : List Loc) (i62 : Int) (rec63 : ((List Want) × (List Loc) × (List Loc) × Int) → Option Bool) (x75 : Want) (l84 : List Loc) : Option Bool :=
  bd (app (α := Want) l53 [(Want.mk x75.id l84)]) fun l88 =>
  bd (ix x0 i62) fun x91 =>
  bd (app (α := Loc) l56 x91.locs) fun l93 =>
  bd (app (α := Loc) l59 l84) fun l96 =>
  bd (ix x0 i62) fun x98 =>
  bd (app (α := Loc) l96 x98.locs) fun l100 =>
  cellarerlaw21_PlanTurns.k3 i62 rec63 l88 l93 l100


def cellarerlaw21_PlanTurns.l5 (x0 : List Want) (x1 : Int) (l53 : List Want) (l56 : List Loc) (l59 : List Loc) (i62 : Int) (rec63 : ((List Want) × (List Loc) × (List Loc) × Int) → Option Bool) (x75 : Want) (x80 : Want) (rec127 : (Int × (List Loc)) → Option Bool) : (Int × (List Loc)) → Option Bool
  | (i123, l124) =>
    if decide (i123 < (x80.locs.length : Int)) then
      bd (ix x0 i62) fun x129 =>
      bd (rem (wu x1) (wu (x80.locs.length : Int))) fun x131 =>
      bd (rem (wr (i123 + wr x131)) (x80.locs.length : Int)) fun x132 =>
      bd (ix x129.locs x132) fun x133 =>
      bd (app (α := Loc) l124 [x133]) fun l136 =>
      rec127 (wr (i123 + 1), l136)
    else
      cellarerlaw21_PlanTurns.k4 x0 l53 l56 l59 i62 rec63 x75 l124


def cellarerlaw21_PlanTurns.l2 (x0 : List Want) (x1 : Int) (rec63 : ((List Want) × (List Loc) × (List Loc) × Int) → Option Bool) : ((List Want) × (List Loc) × (List Loc) × Int) → Option Bool
  | (l53, l56, l59, i62) =>
    if decide (i62 < (x0.length : Int)) then
      bd (ix x0 i62) fun x75 =>
      bd (ix x0 i62) fun x80 =>
      loop (cellarerlaw21_PlanTurns.l5 x0 x1 l53 l56 l59 i62 rec63 x75 x80) (0, [])
    else
      cellarerlaw21_PlanTurns.k1 x0 l53 l56 l59

def cellarerlaw21_PlanTurns (x0 : List Want) (x1 : Int) : Option Bool :=
  bd (cellarerlaw21_Heavy x0) fun r1 =>
  if r1 then
    some true
  else
    loop (cellarerlaw21_PlanTurns.l2 x0 x1) ([], [], [], 0)

theorem cellarerlaw21_PlanTurns_ok {F : Frz} {w : World} {x0 : List Want} {x1 : Int} {r : Bool} {v0 : Value} (hA : Agree F w.heap) (h0 : SlF Want.t F v0 x0) (H : cellarerlaw21_PlanTurns x0 x1 = some r) : Ret Try.prog 7 #[v0, .int .i64 x1] w fun v w' => ∃ (F' : Frz), v = .bool r ∧ St [] w F F' [] w' := by
 refine Ret_of (args := [v0, .int .i64 x1]) Go.Proofs.Try.func7 rfl rfl ?_
 change C _ _ _ _ [(0, v0), (1, .int .i64 x1)] _
 have hS := St.entry hA
 dsimp only [cellarerlaw21_PlanTurns] at H
 refine C_seq ?_
 refine C_region ?_
 refine W_assign rfl rfl ?_
 refine W_nil ?_
 refine N_code ?_
 refine C_seq ?_
 refine C_seq ?_
 obtain ⟨r1, hr1, H⟩ := bd_some H
 refine C_region ?_
 refine W_move rfl rfl ?_
 refine W_call rfl Ty.named26 rfl (cellarerlaw21_Heavy_ok hS.agree h0 hr1) ?_
 rintro v2 w2 ⟨Fr1, rfl, hT2⟩
 have hS2 := hS.lent hT2
 refine W_nil ?_
 refine N_code ?_
 refine C_cond rfl (fun hc3 => ?_) (fun hc3 => ?_)
 ·
  rw [if_t hc3] at H
  refine C_seq ?_
  refine C_region ?_
  refine W_assign rfl rfl ?_
  refine W_nil ?_
  refine N_code ?_
  obtain rfl := Option.some.inj H
  refine C_ret rfl rfl ?_
  exact ⟨F, rfl, hS2⟩
 ·
  rw [if_f hc3] at H
  refine C_skip ?_
  refine N_code ?_
  refine C_seq ?_
  refine C_region ?_
  refine W_assign rfl rfl ?_
  refine W_nil ?_
  refine N_code ?_
  refine C_seq ?_
  refine C_region ?_
  refine W_assign rfl rfl ?_
  refine W_assign rfl rfl ?_
  refine W_nil ?_
  refine N_code ?_
  refine C_seq_join (fun E wq => ∃ l5 : List Want, ∃ l8 : List Loc, ∃ l11 : List Loc, cellarerlaw21_PlanTurns.k1 x0 l5 l8 l11 = some r ∧ ∃ (F4 : Frz) (u6 : Value) (u9 : Value) (u12 : Value), E = [(0, v0), (5, u6), (6, u9), (7, u12)] ∧ F.le F4 ∧ St [] w F F4 [.row Want.t 52 u6 l5, .row Loc.t 37 u9 l8, .row Loc.t 37 u12 l11] wq) ?_ ?_
  ·
   refine C_seq ?_
   refine C_region ?_
   refine W_assign rfl rfl ?_
   refine W_nil ?_
   refine N_code ?_
   refine C_block ?_
   refine C_loopM (fun (s : (List Want) × (List Loc) × (List Loc) × Int) E wq => ∃ (F52 : Frz) (u54 : Value) (u57 : Value) (u60 : Value), E = [(0, v0), (1, .int .i64 x1), (5, u54), (6, u57), (7, u60), (8, .int .i64 s.2.2.2)] ∧ F.le F52 ∧ St [] w F F52 [.row Want.t 52 u54 s.1, .row Loc.t 37 u57 s.2.1, .row Loc.t 37 u60 s.2.2.1] wq) H ?_ ?_
   ·
    have hS167 := hS2.nilRow Want.t 52
    have hS169 := hS167.nilRow Loc.t 37
    have hS171 := hS169.nilRow Loc.t 37
    exact ⟨_, ⟨F, (.slice none 0 0), (.slice none 0 0), (.slice none 0 0), rfl, (Frz.le.refl _), hS171.pick [2, 1, 0] (by decide)⟩, ⟨rfl, rfl, rfl, rfl, rfl, rfl, trivial⟩⟩
   ·
    rintro rec63 ⟨l53, l56, l59, i62⟩ E w52 hI H
    try dsimp only at hI
    obtain ⟨F52, u54, u57, u60, rfl, le52, hS52⟩ := hI
    dsimp only [cellarerlaw21_PlanTurns.l2] at H
    refine C_seq ?_
    refine C_seq ?_
    refine C_region ?_
    refine W_move rfl rfl ?_
    refine W_move rfl rfl ?_
    refine W_lenv rfl Go.Proofs.Try.underlying47 rfl h0.ln ?_
    refine W_lss rfl rfl rfl ?_
    refine W_nil ?_
    refine N_code ?_
    refine C_cond rfl (fun hc64 => ?_) (fun hc64 => ?_)
    ·
     rw [if_t hc64] at H
     refine C_skip ?_
     refine N_code ?_
     refine C_seq_join (fun E wq => ∃ l66 : List Want, ∃ l69 : List Loc, ∃ l72 : List Loc, cellarerlaw21_PlanTurns.k3 i62 rec63 l66 l69 l72 = some r ∧ ∃ (F65 : Frz) (u67 : Value) (u70 : Value) (u73 : Value), E = [(0, v0), (1, .int .i64 x1), (5, u67), (6, u70), (7, u73), (8, .int .i64 i62)] ∧ F52.le F65 ∧ St [] w F F65 [.row Want.t 52 u67 l66, .row Loc.t 37 u70 l69, .row Loc.t 37 u73 l72] wq) ?_ ?_
     ·
      refine C_block ?_
      refine C_seq ?_
      obtain ⟨x75, hx75, H⟩ := bd_some H
      refine C_region ?_
      refine W_move rfl rfl ?_
      refine W_move rfl rfl ?_
      obtain ⟨hp78, hy78⟩ := ix_some hx75
      obtain ⟨cs78, hr78, he78⟩ := (h0.mono le52).at_ hy78
      obtain ⟨ue76_0, rfl, hle76_0, hue76_0⟩ := hr78
      replace he78 : Elf _ _ 33 _ _ := he78
      refine W_ix rfl Go.Proofs.Try.underlying47 Ty.cells52 Ty.info52 rfl rfl (he78.el hS52.agree) hp78 rfl ?_
      refine W_fld 0 rfl Ty.field52_0 rfl (he78.el hS52.agree) ?_
      refine W_ldg 0 ((idCells x75.id)) rfl Ty.agg50 Ty.size50 rfl (he78.el hS52.agree) (by omega) (fun q u h => sub_at (post := [ue76_0]) rfl h) ?_
      refine W_build (v := .agg (Want.cells (Want.mk x75.id []) (.slice none 0 0)).toArray) rfl rfl (fun _ => by kernel_rfl) ?_
      refine W_alc (cs := idCells (List.replicate 32 (0 : UInt8)) ++ [.slice none 0 0]) rfl Ty.zero52 rfl hS52 ?_
      intro g77 w77 hS77
      refine W_bst (c := idCells x75.id ++ [.slice none 0 0]) 0 (idCells x75.id ++ [.slice none 0 0]) rfl rfl hS77 rfl rfl (by rw [Ty.size52]; simp [idCells_len]) (fun y hy => Want.t.one (F := F52) (x := (Want.mk x75.id [])) ⟨.slice none 0 0, rfl, hle76_0, (SlF.nil _)⟩ y hy) (by simp [idCells_len]) (by simp [idCells_len, List.take_append, List.drop_append, List.take_of_length_le, List.drop_eq_nil_of_le]) ?_
      intro w79 hS79
      refine W_nil ?_
      refine N_code ?_
      refine C_seq ?_
      obtain ⟨x80, hx80, H⟩ := bd_some H
      refine C_region ?_
      refine W_move rfl rfl ?_
      refine W_move rfl rfl ?_
      obtain ⟨hp82, hy82⟩ := ix_some hx80
      obtain ⟨cs82, hr82, he82⟩ := (h0.mono le52).at_ hy82
      obtain ⟨ue81_0, rfl, hle81_0, hue81_0⟩ := hr82
      replace he82 : Elf _ _ 33 _ _ := he82
      refine W_ix rfl Go.Proofs.Try.underlying47 Ty.cells52 Ty.info52 rfl rfl (he82.el hS79.agree) hp82 rfl ?_
      refine W_fld 32 rfl Ty.field52_1 rfl (he82.el hS79.agree) ?_
      refine W_ld1 32 rfl Ty.cell49 rfl (he82.el hS79.agree) (by omega) rfl ?_
      refine W_lenv rfl Go.Proofs.Try.underlying49 rfl hue81_0.ln ?_
      refine W_assign rfl rfl ?_
      refine W_nil ?_
      refine N_code ?_
      refine C_seq_join (fun E wq => ∃ l84 : List Loc, cellarerlaw21_PlanTurns.k4 x0 l53 l56 l59 i62 rec63 x75 l84 = some r ∧ ∃ (F83 : Frz) (u85 : Value), E = [(0, v0), (1, .int .i64 x1), (5, u54), (6, u57), (7, u60), (8, .int .i64 i62), (9, pl g77 0)] ∧ F52.le F83 ∧ St [] w F F83 [.box g77 52 (idCells x75.id ++ [u85]), .row Want.t 52 u54 l53, .row Loc.t 37 u57 l56, .row Loc.t 37 u60 l59, .row Loc.t 37 u85 l84] wq) ?_ ?_
      ·
       refine C_seq ?_
       refine C_region ?_
       refine W_assign rfl rfl ?_
       refine W_nil ?_
       refine N_code ?_
       refine C_block ?_
       refine C_loopM (fun (s : Int × (List Loc)) E wq => ∃ (F122 : Frz) (u125 : Value), E = [(0, v0), (1, .int .i64 x1), (5, u54), (6, u57), (7, u60), (8, .int .i64 i62), (9, pl g77 0), (10, .int .i64 (x80.locs.length : Int)), (11, .int .i64 s.1)] ∧ F52.le F122 ∧ St [] w F F122 [.box g77 52 (idCells x75.id ++ [u125]), .row Want.t 52 u54 l53, .row Loc.t 37 u57 l56, .row Loc.t 37 u60 l59, .row Loc.t 37 u125 s.2] wq) H ?_ ?_
       ·
        have hS165 := hS79.nilRow Loc.t 37
        exact ⟨_, ⟨F52, (.slice none 0 0), rfl, (Frz.le.refl _), hS165.pick [1, 2, 3, 4, 0] (by decide)⟩, ⟨rfl, rfl, rfl, rfl, rfl, rfl, rfl, rfl, rfl, trivial⟩⟩
       ·
        rintro rec127 ⟨i123, l124⟩ E w122 hI H
        try dsimp only at hI
        obtain ⟨F122, u125, rfl, le122, hS122⟩ := hI
        dsimp only [cellarerlaw21_PlanTurns.l5] at H
        refine C_seq ?_
        refine C_seq ?_
        refine C_region ?_
        refine W_move rfl rfl ?_
        refine W_move rfl rfl ?_
        refine W_lss rfl rfl rfl ?_
        refine W_nil ?_
        refine N_code ?_
        refine C_cond rfl (fun hc128 => ?_) (fun hc128 => ?_)
        ·
         rw [if_t hc128] at H
         refine C_skip ?_
         refine N_code ?_
         refine C_seq ?_
         refine C_block ?_
         obtain ⟨x129, hx129, H⟩ := bd_some H
         obtain ⟨x131, hx131, H⟩ := bd_some H
         obtain ⟨x132, hx132, H⟩ := bd_some H
         obtain ⟨x133, hx133, H⟩ := bd_some H
         obtain ⟨l136, hl136, H⟩ := bd_some H
         obtain ⟨hp138, hy138⟩ := ix_some hx129
         obtain ⟨cs138, hr138, he138⟩ := (h0.mono (le52.trans le122)).at_ hy138
         obtain ⟨ue130_0, rfl, hle130_0, hue130_0⟩ := hr138
         replace he138 : Elf _ _ 33 _ _ := he138
         obtain ⟨hp139, hy139⟩ := ix_some hx133
         obtain ⟨cs139, hr139, he139⟩ := hue130_0.at_ hy139
         obtain rfl := hr139
         replace he139 : Elf _ _ 4 _ _ := he139
         apply C_draw 20 [[], [0], [], [], [2, 3], [4], [5], [], [], [8], [], [10], [9, 11], [12], [7, 13], [], [14, 15], [6, 16], [17], [18]] [.val (pl g77 (0 + 32)), .val (u125), .val (v0), .val (.int .i64 i62), .val (elp v0 (i62.toNat * 33)), .val (elp v0 ((i62.toNat * 33) + 32)), .val (ue130_0), .val (.int .i64 i123), .val (.int .i64 x1), .val (.int .u64 (wu x1)), .val (.int .i64 (x80.locs.length : Int)), .val (.int .u64 (wu (x80.locs.length : Int))), .val (.int .u64 x131), .val (.int .i64 (wr x131)), .val (.int .i64 (wr (i123 + wr x131))), .val (.int .i64 (x80.locs.length : Int)), .val (.int .i64 x132), .val (elp ue130_0 (x132.toNat * 4)), .val (.agg (Loc.cells x133).toArray), .pred (fun v wr => Src Loc.t F122 wr v [x133]) stable_src] Ty.mixed rfl rfl (by kernel_rfl) (by kernel_rfl) rfl
         ·
          refine ⟨?_, ?_, ?_, ?_, ?_, ?_, ?_, ?_, ?_, ?_, ?_, ?_, ?_, ?_, ?_, ?_, ?_, ?_, ?_, ?_, trivial⟩
          ·
           intro w140 vq140 hB140 hH140
           have hS140 := hS122.below hB140
           refine W_field_pl 32 rfl Ty.field52_1 rfl ?_
           refine W_nil ?_
           exact N_step rfl rfl (Below.refl _ _)
          ·
           intro w141 vq141 hB141 hH141
           have hS141 := hS122.below hB141
           refine W_bld1 0 rfl Ty.cell49 rfl hS141 rfl rfl ?_
           refine W_nil ?_
           exact N_step rfl rfl (Below.refl _ _)
          ·
           intro w142 vq142 hB142 hH142
           have hS142 := hS122.below hB142
           refine W_move rfl rfl ?_
           refine W_nil ?_
           exact N_step rfl rfl (Below.refl _ _)
          ·
           intro w143 vq143 hB143 hH143
           have hS143 := hS122.below hB143
           refine W_move rfl rfl ?_
           refine W_nil ?_
           exact N_step rfl rfl (Below.refl _ _)
          ·
           intro w144 vq144 hB144 hH144
           have hS144 := hS122.below hB144
           refine W_ix rfl Go.Proofs.Try.underlying47 Ty.cells52 Ty.info52 rfl rfl (he138.el hS144.agree) hp138 rfl ?_
           refine W_nil ?_
           exact N_step rfl rfl (Below.refl _ _)
          ·
           intro w145 vq145 hB145 hH145
           have hS145 := hS122.below hB145
           refine W_fld 32 rfl Ty.field52_1 rfl (he138.el hS145.agree) ?_
           refine W_nil ?_
           exact N_step rfl rfl (Below.refl _ _)
          ·
           intro w146 vq146 hB146 hH146
           have hS146 := hS122.below hB146
           refine W_ld1 32 rfl Ty.cell49 rfl (he138.el hS146.agree) (by omega) rfl ?_
           refine W_nil ?_
           exact N_step rfl rfl (Below.refl _ _)
          ·
           intro w147 vq147 hB147 hH147
           have hS147 := hS122.below hB147
           refine W_move rfl rfl ?_
           refine W_nil ?_
           exact N_step rfl rfl (Below.refl _ _)
          ·
           intro w148 vq148 hB148 hH148
           have hS148 := hS122.below hB148
           refine W_move rfl rfl ?_
           refine W_nil ?_
           exact N_step rfl rfl (Below.refl _ _)
          ·
           intro w149 vq149 hB149 hH149
           have hS149 := hS122.below hB149
           refine W_conv rfl rfl Ty.some3 Go.Proofs.Try.underlying44 (rfl) ?_
           refine W_nil ?_
           exact N_step rfl rfl (Below.refl _ _)
          ·
           intro w150 vq150 hB150 hH150
           have hS150 := hS122.below hB150
           refine W_move rfl rfl ?_
           refine W_nil ?_
           exact N_step rfl rfl (Below.refl _ _)
          ·
           intro w151 vq151 hB151 hH151
           have hS151 := hS122.below hB151
           refine W_conv rfl rfl Ty.some3 Go.Proofs.Try.underlying44 (rfl) ?_
           refine W_nil ?_
           exact N_step rfl rfl (Below.refl _ _)
          ·
           intro w152 vq152 hB152 hH152
           have hS152 := hS122.below hB152
           obtain ⟨hz153, hw153⟩ := rem_some hx131
           refine W_rem rfl rfl rfl hz153 hw153.symm ?_
           refine W_nil ?_
           exact N_step rfl rfl (Below.refl _ _)
          ·
           intro w154 vq154 hB154 hH154
           have hS154 := hS122.below hB154
           refine W_conv rfl rfl Ty.some44 Go.Proofs.Try.underlying3 (rfl) ?_
           refine W_nil ?_
           exact N_step rfl rfl (Below.refl _ _)
          ·
           intro w155 vq155 hB155 hH155
           have hS155 := hS122.below hB155
           refine W_add rfl rfl rfl rfl ?_
           refine W_nil ?_
           exact N_step rfl rfl (Below.refl _ _)
          ·
           intro w156 vq156 hB156 hH156
           have hS156 := hS122.below hB156
           refine W_move rfl rfl ?_
           refine W_nil ?_
           exact N_step rfl rfl (Below.refl _ _)
          ·
           intro w157 vq157 hB157 hH157
           have hS157 := hS122.below hB157
           obtain ⟨hz158, hw158⟩ := rem_some hx132
           refine W_rem rfl rfl rfl hz158 hw158.symm ?_
           refine W_nil ?_
           exact N_step rfl rfl (Below.refl _ _)
          ·
           intro w159 vq159 hB159 hH159
           have hS159 := hS122.below hB159
           refine W_ix rfl Go.Proofs.Try.underlying49 Ty.cells37 Ty.info37 rfl rfl (he139.el hS159.agree) hp139 rfl ?_
           refine W_nil ?_
           exact N_step rfl rfl (Below.refl _ _)
          ·
           intro w160 vq160 hB160 hH160
           have hS160 := hS122.below hB160
           refine W_ldg 0 ((Loc.cells x133)) rfl Ty.agg37 Ty.size37 rfl (he139.el hS160.agree) (by omega) (fun q u h => sub_at (post := []) rfl h) ?_
           refine W_nil ?_
           exact N_step rfl rfl (Below.refl _ _)
          ·
           intro w161 vq161 hB161 hH161
           have hS161 := hS122.below hB161
           refine W_bs0 (t := Loc.t) [(Loc.cells x133)] [x133] rfl Go.Proofs.Try.underlying49 Ty.cells37 rfl rfl Ty.zero37 rfl rfl ⟨rfl, trivial⟩ rfl rfl hS161.agree ?_
           intro u135 w135 hB135 hs135
           refine W_nil ?_
           exact N_step rfl hs135 hB135
         intro w162 vq162 hB162 hH162
         obtain ⟨_, _, _, _, _, _, _, _, _, _, _, _, _, _, _, _, _, _, _, hp162_19, _⟩ := hH162
         have hS162 := hS122.below hB162
         refine W_appM 4 rfl Go.Proofs.Try.underlying49 Ty.row37 rfl rfl rfl rfl rfl hS162 rfl hp162_19 hl136 ?_
         intro v137 w137 hS137
         refine W_field_pl 32 rfl Ty.field52_1 rfl ?_
         refine W_bst (c := [v137]) 0 (idCells x75.id ++ [v137]) rfl rfl hS137 rfl (by rw [(hS137.rowLn (k := 4) rfl).cells]) (by rw [Ty.size49]; simp [idCells_len]) (by intro y hy; simp at hy; subst hy; exact (hS137.rowLn (k := 4) rfl).one) (by simp [idCells_len]) (by simp [idCells_len, List.take_append, List.drop_append, List.take_of_length_le, List.drop_eq_nil_of_le]) ?_
         intro w163 hS163
         refine W_nil ?_
         refine N_block ?_
         refine N_code ?_
         refine C_region ?_
         refine W_move rfl rfl ?_
         refine W_add rfl rfl rfl rfl ?_
         refine W_assign rfl rfl ?_
         refine W_nil ?_
         exact N_againM (wr (i123 + 1), l136) _ H ⟨F122, v137, rfl, le122, hS163⟩ ⟨rfl, rfl, rfl, rfl, rfl, rfl, rfl, rfl, rfl, trivial⟩
        ·
         rw [if_f hc128] at H
         refine C_exit _ rfl ?_
         exact N_join _ ⟨l124, H, ⟨F122, u125, rfl, le122, hS122⟩⟩ ⟨rfl, rfl, rfl, rfl, rfl, rfl, rfl, trivial⟩
      ·
       rintro E w83 ⟨l84, H, F83, u85, rfl, le83, hS83⟩
       dsimp only [cellarerlaw21_PlanTurns.k4] at H
       refine C_seq ?_
       obtain ⟨l88, hl88, H⟩ := bd_some H
       refine C_region ?_
       refine W_move rfl rfl ?_
       refine W_bldg 0 ((Want.cells (Want.mk x75.id l84) u85)) rfl Ty.agg52 Ty.size52 rfl hS83 rfl (fun q u h => sub_at (post := []) rfl h) ?_
       obtain ⟨F90, le90, hf90, hS90⟩ := hS83.freeze 4 [0, 1, 2, 3] rfl (by decide) (by decide)
       refine W_bs (t := Want.t) [(Want.cells (Want.mk x75.id l84) u85)] [(Want.mk x75.id l84)] rfl Go.Proofs.Try.underlying47 Ty.cells52 rfl rfl Ty.zero52 rfl rfl ⟨⟨u85, rfl, hle76_0, hf90⟩, trivial⟩ rfl rfl hS90 ?_
       intro u87 w87 hS87
       refine W_appM 2 rfl Go.Proofs.Try.underlying47 Ty.row52 rfl rfl rfl rfl rfl hS87 rfl (hS87.rowSrc (j := 0) rfl) hl88 ?_
       intro v89 w89 hS89
       refine W_assign rfl rfl ?_
       refine W_nil ?_
       refine N_code ?_
       refine C_seq ?_
       obtain ⟨x91, hx91, H⟩ := bd_some H
       obtain ⟨l93, hl93, H⟩ := bd_some H
       refine C_region ?_
       refine W_move rfl rfl ?_
       refine W_move rfl rfl ?_
       refine W_move rfl rfl ?_
       obtain ⟨hp95, hy95⟩ := ix_some hx91
       obtain ⟨cs95, hr95, he95⟩ := (h0.mono ((le52.trans le83).trans le90)).at_ hy95
       obtain ⟨ue92_0, rfl, hle92_0, hue92_0⟩ := hr95
       replace he95 : Elf _ _ 33 _ _ := he95
       refine W_ix rfl Go.Proofs.Try.underlying47 Ty.cells52 Ty.info52 rfl rfl (he95.el hS89.agree) hp95 rfl ?_
       refine W_fld 32 rfl Ty.field52_1 rfl (he95.el hS89.agree) ?_
       refine W_ld1 32 rfl Ty.cell49 rfl (he95.el hS89.agree) (by omega) rfl ?_
       refine W_appM 3 rfl Go.Proofs.Try.underlying49 Ty.row37 rfl rfl rfl rfl rfl hS89 rfl (hue92_0.src hS89.agree) hl93 ?_
       intro v94 w94 hS94
       refine W_assign rfl rfl ?_
       refine W_nil ?_
       refine N_code ?_
       obtain ⟨l96, hl96, H⟩ := bd_some H
       obtain ⟨x98, hx98, H⟩ := bd_some H
       obtain ⟨l100, hl100, H⟩ := bd_some H
       obtain ⟨hp102, hy102⟩ := ix_some hx98
       obtain ⟨cs102, hr102, he102⟩ := (h0.mono ((le52.trans le83).trans le90)).at_ hy102
       obtain ⟨ue99_0, rfl, hle99_0, hue99_0⟩ := hr102
       replace he102 : Elf _ _ 33 _ _ := he102
       apply C_drawJ (fun D vs wr => ∀ (b3 : Bool), D 3 = b3 → match b3 with | false => ∃ FJ : Frz, F90.le FJ ∧ St [] w F FJ [.row Want.t 52 u87 [(Want.mk x75.id l84)], .box g77 52 (idCells x75.id ++ [u85]), .row Want.t 52 v89 l88, .row Loc.t 37 v94 l93, .row Loc.t 37 u60 l59] wr | true => ∃ FJ : Frz, ∃ v97 : Value, vs 3 = v97 ∧ F90.le FJ ∧ St [] w F FJ [.row Want.t 52 u87 [(Want.mk x75.id l84)], .box g77 52 (idCells x75.id ++ [u85]), .row Want.t 52 v89 l88, .row Loc.t 37 v94 l93, .row Loc.t 37 v97 l96] wr) 9 [[], [], [1], [0, 2], [], [], [4, 5], [6], [7]] [some (u60), some (pl g77 (0 + 32)), some (u85), none, some (v0), some (.int .i64 i62), some (elp v0 (i62.toNat * 33)), some (elp v0 ((i62.toNat * 33) + 32)), some (ue99_0)] Ty.mixed rfl (by kernel_rfl) (by kernel_rfl) rfl
       ·
        intro vq103 b3 h3
        obtain rfl : b3 = false := h3.symm
        exact ⟨F90, (Frz.le.refl _), (hS94.below (below_drew _))⟩
       ·
        refine ⟨?_, ?_, ?_, ?_, ?_, ?_, ?_, ?_, ?_, trivial⟩
        ·
         intro w104 vq104 D104 hD104 hd104 hJ104
         rcases Bool.eq_false_or_eq_true (D104 3) with hb105 | hb105
         ·
          obtain ⟨FJ104, v97, he104_3, leJ104, hSJ104⟩ := (hJ104 true hb105)
          refine W_move rfl rfl ?_
          refine W_nil ?_
          exact N_stepJ rfl (fun u hu => Option.some.inj hu) (fun b3 h3 => by obtain rfl : b3 = true := h3.symm.trans hb105; exact ⟨FJ104, v97, he104_3, leJ104, hSJ104⟩)
         ·
          obtain ⟨FJ104, leJ104, hSJ104⟩ := (hJ104 false hb105)
          refine W_move rfl rfl ?_
          refine W_nil ?_
          exact N_stepJ rfl (fun u hu => Option.some.inj hu) (fun b3 h3 => by obtain rfl : b3 = false := h3.symm.trans hb105; exact ⟨FJ104, leJ104, hSJ104⟩)
        ·
         intro w106 vq106 D106 hD106 hd106 hJ106
         rcases Bool.eq_false_or_eq_true (D106 3) with hb107 | hb107
         ·
          obtain ⟨FJ106, v97, he106_3, leJ106, hSJ106⟩ := (hJ106 true hb107)
          refine W_field_pl 32 rfl Ty.field52_1 rfl ?_
          refine W_nil ?_
          exact N_stepJ rfl (fun u hu => Option.some.inj hu) (fun b3 h3 => by obtain rfl : b3 = true := h3.symm.trans hb107; exact ⟨FJ106, v97, he106_3, leJ106, hSJ106⟩)
         ·
          obtain ⟨FJ106, leJ106, hSJ106⟩ := (hJ106 false hb107)
          refine W_field_pl 32 rfl Ty.field52_1 rfl ?_
          refine W_nil ?_
          exact N_stepJ rfl (fun u hu => Option.some.inj hu) (fun b3 h3 => by obtain rfl : b3 = false := h3.symm.trans hb107; exact ⟨FJ106, leJ106, hSJ106⟩)
        ·
         intro w108 vq108 D108 hD108 hd108 hJ108
         rcases Bool.eq_false_or_eq_true (D108 3) with hb109 | hb109
         ·
          obtain ⟨FJ108, v97, he108_3, leJ108, hSJ108⟩ := (hJ108 true hb109)
          refine W_bld1 1 rfl Ty.cell49 rfl hSJ108 rfl rfl ?_
          refine W_nil ?_
          exact N_stepJ rfl (fun u hu => Option.some.inj hu) (fun b3 h3 => by obtain rfl : b3 = true := h3.symm.trans hb109; exact ⟨FJ108, v97, he108_3, leJ108, hSJ108⟩)
         ·
          obtain ⟨FJ108, leJ108, hSJ108⟩ := (hJ108 false hb109)
          refine W_bld1 1 rfl Ty.cell49 rfl hSJ108 rfl rfl ?_
          refine W_nil ?_
          exact N_stepJ rfl (fun u hu => Option.some.inj hu) (fun b3 h3 => by obtain rfl : b3 = false := h3.symm.trans hb109; exact ⟨FJ108, leJ108, hSJ108⟩)
        ·
         intro w110 vq110 D110 hD110 hd110 hJ110
         obtain ⟨FJ110, leJ110, hSJ110⟩ := (hJ110 false hD110)
         refine W_appM 4 rfl Go.Proofs.Try.underlying49 Ty.row37 rfl rfl rfl rfl rfl hSJ110 rfl ((hf90.mono leJ110).src hSJ110.agree) hl96 ?_
         intro v97 w97 hS97
         refine W_nil ?_
         exact N_stepJ rfl (fun u (hu : (none : Option Value) = some u) => by cases hu) (fun b3 h3 => by obtain rfl : b3 = true := h3.symm; exact ⟨FJ110, v97, rfl, leJ110, hS97⟩)
        ·
         intro w111 vq111 D111 hD111 hd111 hJ111
         rcases Bool.eq_false_or_eq_true (D111 3) with hb112 | hb112
         ·
          obtain ⟨FJ111, v97, he111_3, leJ111, hSJ111⟩ := (hJ111 true hb112)
          refine W_move rfl rfl ?_
          refine W_nil ?_
          exact N_stepJ rfl (fun u hu => Option.some.inj hu) (fun b3 h3 => by obtain rfl : b3 = true := h3.symm.trans hb112; exact ⟨FJ111, v97, he111_3, leJ111, hSJ111⟩)
         ·
          obtain ⟨FJ111, leJ111, hSJ111⟩ := (hJ111 false hb112)
          refine W_move rfl rfl ?_
          refine W_nil ?_
          exact N_stepJ rfl (fun u hu => Option.some.inj hu) (fun b3 h3 => by obtain rfl : b3 = false := h3.symm.trans hb112; exact ⟨FJ111, leJ111, hSJ111⟩)
        ·
         intro w113 vq113 D113 hD113 hd113 hJ113
         rcases Bool.eq_false_or_eq_true (D113 3) with hb114 | hb114
         ·
          obtain ⟨FJ113, v97, he113_3, leJ113, hSJ113⟩ := (hJ113 true hb114)
          refine W_move rfl rfl ?_
          refine W_nil ?_
          exact N_stepJ rfl (fun u hu => Option.some.inj hu) (fun b3 h3 => by obtain rfl : b3 = true := h3.symm.trans hb114; exact ⟨FJ113, v97, he113_3, leJ113, hSJ113⟩)
         ·
          obtain ⟨FJ113, leJ113, hSJ113⟩ := (hJ113 false hb114)
          refine W_move rfl rfl ?_
          refine W_nil ?_
          exact N_stepJ rfl (fun u hu => Option.some.inj hu) (fun b3 h3 => by obtain rfl : b3 = false := h3.symm.trans hb114; exact ⟨FJ113, leJ113, hSJ113⟩)
        ·
         intro w115 vq115 D115 hD115 hd115 hJ115
         rcases Bool.eq_false_or_eq_true (D115 3) with hb116 | hb116
         ·
          obtain ⟨FJ115, v97, he115_3, leJ115, hSJ115⟩ := (hJ115 true hb116)
          refine W_ix rfl Go.Proofs.Try.underlying47 Ty.cells52 Ty.info52 rfl rfl (he102.el (hSJ115.agree.le leJ115)) hp102 rfl ?_
          refine W_nil ?_
          exact N_stepJ rfl (fun u hu => Option.some.inj hu) (fun b3 h3 => by obtain rfl : b3 = true := h3.symm.trans hb116; exact ⟨FJ115, v97, he115_3, leJ115, hSJ115⟩)
         ·
          obtain ⟨FJ115, leJ115, hSJ115⟩ := (hJ115 false hb116)
          refine W_ix rfl Go.Proofs.Try.underlying47 Ty.cells52 Ty.info52 rfl rfl (he102.el (hSJ115.agree.le leJ115)) hp102 rfl ?_
          refine W_nil ?_
          exact N_stepJ rfl (fun u hu => Option.some.inj hu) (fun b3 h3 => by obtain rfl : b3 = false := h3.symm.trans hb116; exact ⟨FJ115, leJ115, hSJ115⟩)
        ·
         intro w117 vq117 D117 hD117 hd117 hJ117
         rcases Bool.eq_false_or_eq_true (D117 3) with hb118 | hb118
         ·
          obtain ⟨FJ117, v97, he117_3, leJ117, hSJ117⟩ := (hJ117 true hb118)
          refine W_fld 32 rfl Ty.field52_1 rfl (he102.el (hSJ117.agree.le leJ117)) ?_
          refine W_nil ?_
          exact N_stepJ rfl (fun u hu => Option.some.inj hu) (fun b3 h3 => by obtain rfl : b3 = true := h3.symm.trans hb118; exact ⟨FJ117, v97, he117_3, leJ117, hSJ117⟩)
         ·
          obtain ⟨FJ117, leJ117, hSJ117⟩ := (hJ117 false hb118)
          refine W_fld 32 rfl Ty.field52_1 rfl (he102.el (hSJ117.agree.le leJ117)) ?_
          refine W_nil ?_
          exact N_stepJ rfl (fun u hu => Option.some.inj hu) (fun b3 h3 => by obtain rfl : b3 = false := h3.symm.trans hb118; exact ⟨FJ117, leJ117, hSJ117⟩)
        ·
         intro w119 vq119 D119 hD119 hd119 hJ119
         rcases Bool.eq_false_or_eq_true (D119 3) with hb120 | hb120
         ·
          obtain ⟨FJ119, v97, he119_3, leJ119, hSJ119⟩ := (hJ119 true hb120)
          refine W_ld1 32 rfl Ty.cell49 rfl (he102.el (hSJ119.agree.le leJ119)) (by omega) rfl ?_
          refine W_nil ?_
          exact N_stepJ rfl (fun u hu => Option.some.inj hu) (fun b3 h3 => by obtain rfl : b3 = true := h3.symm.trans hb120; exact ⟨FJ119, v97, he119_3, leJ119, hSJ119⟩)
         ·
          obtain ⟨FJ119, leJ119, hSJ119⟩ := (hJ119 false hb120)
          refine W_ld1 32 rfl Ty.cell49 rfl (he102.el (hSJ119.agree.le leJ119)) (by omega) rfl ?_
          refine W_nil ?_
          exact N_stepJ rfl (fun u hu => Option.some.inj hu) (fun b3 h3 => by obtain rfl : b3 = false := h3.symm.trans hb120; exact ⟨FJ119, leJ119, hSJ119⟩)
       intro w121 vq121 D121 hA121 hJ121
       obtain ⟨FJ121, v97, he121_3, leJ121, hSJ121⟩ := (hJ121 true (hA121 3 (by decide)))
       refine W_eqv (t := 77) rfl he121_3 ?_
       refine W_appM 4 rfl Go.Proofs.Try.underlying49 Ty.row37 rfl rfl rfl rfl rfl hSJ121 rfl ((hue99_0.mono leJ121).src hSJ121.agree) hl100 ?_
       intro v101 w101 hS101
       refine W_assign rfl rfl ?_
       refine W_nil ?_
       refine N_block ?_
       exact N_join _ ⟨l88, l93, l100, H, ⟨FJ121, v89, v94, v101, rfl, ((le83.trans le90).trans leJ121), hS101.pick [2, 3, 4] (by decide)⟩⟩ ⟨rfl, rfl, rfl, rfl, rfl, rfl, trivial⟩
     ·
      rintro E w65 ⟨l66, l69, l72, H, F65, u67, u70, u73, rfl, le65, hS65⟩
      dsimp only [cellarerlaw21_PlanTurns.k3] at H
      refine C_region ?_
      refine W_move rfl rfl ?_
      refine W_add rfl rfl rfl rfl ?_
      refine W_assign rfl rfl ?_
      refine W_nil ?_
      exact N_againM (l66, l69, l72, wr (i62 + 1)) _ H ⟨F65, u67, u70, u73, rfl, (le52.trans le65), hS65⟩ ⟨rfl, rfl, rfl, rfl, rfl, rfl, trivial⟩
    ·
     rw [if_f hc64] at H
     refine C_exit _ rfl ?_
     exact N_join _ ⟨l53, l56, l59, H, ⟨F52, u54, u57, u60, rfl, le52, hS52⟩⟩ ⟨rfl, rfl, rfl, rfl, trivial⟩
  ·
   rintro E w4 ⟨l5, l8, l11, H, F4, u6, u9, u12, rfl, le4, hS4⟩
   dsimp only [cellarerlaw21_PlanTurns.k1] at H
   refine C_seq ?_
   obtain ⟨r14, hr14, H⟩ := bd_some H
   refine C_region ?_
   refine W_move rfl rfl ?_
   refine W_call rfl Ty.named27 rfl (plan_Order_ok hS4.agree (h0.mono le4) hr14) ?_
   rintro v15 w15 ⟨Fr14, ur14_0, ur14_1, rfl, hT15⟩
   have hS15 := hS4.call hT15
   have ler14 := hT15.ext
   refine W_move rfl rfl ?_
   refine W_extract rfl rfl rfl ?_
   refine W_extract rfl rfl rfl ?_
   refine W_assign rfl rfl ?_
   refine W_assign rfl rfl ?_
   refine W_nil ?_
   refine N_code ?_
   refine C_seq ?_
   obtain ⟨r16, hr16, H⟩ := bd_some H
   refine C_region ?_
   refine W_move rfl rfl ?_
   refine W_call rfl Ty.named27 rfl (plan_Order_ok (now_agree _) (hS15.rowNow (k := 2) rfl) hr16) ?_
   rintro v17 w17 ⟨Fr16, ur16_0, ur16_1, rfl, hT17⟩
   have hS17 := hS15.lentFlat hT17 ⟨fun h => h, ⟨fun h => h, trivial⟩⟩
   refine W_move rfl rfl ?_
   refine W_extract rfl rfl rfl ?_
   refine W_extract rfl rfl rfl ?_
   refine W_assign rfl rfl ?_
   refine W_assign rfl rfl ?_
   refine W_nil ?_
   refine N_code ?_
   refine C_seq ?_
   obtain ⟨r18, hr18, H⟩ := bd_some H
   obtain ⟨r19, hr19, H⟩ := bd_some H
   obtain ⟨r20, hr20, H⟩ := bd_some H
   obtain ⟨r21, hr21, H⟩ := bd_some H
   obtain ⟨r22, hr22, H⟩ := bd_some H
   obtain ⟨r23, hr23, H⟩ := bd_some H
   refine C_join (fun E wq => E = [(4, .bool (((r18 && r19) && r22) && r23))] ∧ ∃ F24 : Frz, Fr14.le F24 ∧ St [] w F F24 [.row Read.t 39 ur16_0 r16.1, .row tI 3 ur16_1 r16.2, .row Read.t 39 ur14_0 r14.1, .row tI 3 ur14_1 r14.2, .row Want.t 52 u6 l5, .row Loc.t 37 u9 l8, .row Loc.t 37 u12 l11] wq) ?_ ?_
   ·
    rcases Bool.eq_false_or_eq_true r18 with hb25 | hb25
    ·
     rcases Bool.eq_false_or_eq_true r19 with hb26 | hb26
     ·
      rcases Bool.eq_false_or_eq_true r22 with hb27 | hb27
      ·
       refine C_region ?_
       refine W_move rfl rfl ?_
       refine W_move rfl rfl ?_
       refine W_call rfl Ty.named21 rfl (cellarerkeep_Reads_ok (now_agree _) (hS17.rowNow (k := 2) rfl) (hS17.rowNow (k := 0) rfl) hr18) ?_
       rintro v28 w28 ⟨Fr18, rfl, hT28⟩
       have hS28 := hS17.lent hT28
       refine W_move rfl rfl ?_
       refine W_known (t := 97) true rfl hb25 ?_
       refine W_guard_yes rfl ?_
       refine W_move rfl rfl ?_
       refine W_guard_yes rfl ?_
       refine W_move rfl rfl ?_
       refine W_guard_yes rfl ?_
       have hy29 := hr19
       rw [only_t hb25] at hy29
       refine W_call rfl Ty.named20 rfl (cellarerkeep_Ints_ok (now_agree _) (hS28.rowNow (k := 3) rfl) (hS28.rowNow (k := 1) rfl) hy29) ?_
       rintro v30 w30 ⟨Fr19, rfl, hT30⟩
       have hS30 := hS28.lent hT30
       refine W_pick_t rfl rfl rfl ?_
       refine W_move rfl rfl ?_
       refine W_known (t := 102) true rfl hb26 ?_
       refine W_guard_yes rfl ?_
       refine W_move rfl rfl ?_
       refine W_guard_yes rfl ?_
       have hy31 := hr20
       rw [only_t (by first | rfl | (rw [hb25, hb26]; first | done | rfl) | simp [hb25, hb26, hb27])] at hy31
       refine W_call rfl Ty.named29 rfl (plan_Sort_ok (now_agree _) (hS30.rowNow (k := 5) rfl) hy31) ?_
       rintro ur20_0 w32 ⟨Fr20, _, rfl, hT32⟩
       have hS32 := hS30.lentFlat hT32 ⟨fun h => h, trivial⟩
       refine W_guard_yes rfl ?_
       refine W_move rfl rfl ?_
       refine W_guard_yes rfl ?_
       have hy33 := hr21
       rw [only_t (by first | rfl | (rw [hb25, hb26]; first | done | rfl) | simp [hb25, hb26, hb27])] at hy33
       refine W_call rfl Ty.named29 rfl (plan_Sort_ok (now_agree _) (hS32.rowNow (k := 7) rfl) hy33) ?_
       rintro ur21_0 w34 ⟨Fr21, _, rfl, hT34⟩
       have hS34 := hS32.lentFlat hT34 ⟨fun h => h, trivial⟩
       refine W_guard_yes rfl ?_
       have hy35 := hr22
       rw [only_t (by first | rfl | (rw [hb25, hb26]; first | done | rfl) | simp [hb25, hb26, hb27])] at hy35
       refine W_call rfl Ty.named28 rfl (cellarerkeep_Locs_ok (now_agree _) (hS34.rowNow (k := 1) rfl) (hS34.rowNow (k := 0) rfl) hy35) ?_
       rintro v36 w36 ⟨Fr22, rfl, hT36⟩
       have hS36 := hS34.lent hT36
       refine W_pick_t rfl rfl rfl ?_
       refine W_move rfl rfl ?_
       refine W_known (t := 109) true rfl hb27 ?_
       refine W_guard_yes rfl ?_
       have hy37 := hr23
       rw [only_t (by first | rfl | (rw [hb25, hb26, hb27]; first | done | rfl) | simp [hb25, hb26, hb27])] at hy37
       refine W_call rfl Ty.named30 rfl (cellarerlaw21_wakes_ok hS36.agree hy37) ?_
       rintro v38 w38 ⟨Fr23, rfl, hT38⟩
       have hS38 := hS36.lent hT38
       refine W_pick_t rfl rfl rfl ?_
       refine W_assign rfl rfl ?_
       refine W_nil ?_
       exact N_join _ ⟨rfl, Fr14, (Frz.le.refl _), hS38.pick [2, 3, 4, 5, 6, 7, 8] (by decide)⟩ ⟨(look_bool rfl (by first | rfl | (rw [hb25, hb26, hb27]; first | done | rfl) | simp [hb25, hb26, hb27])), trivial⟩
      ·
       refine C_region ?_
       refine W_move rfl rfl ?_
       refine W_move rfl rfl ?_
       refine W_call rfl Ty.named21 rfl (cellarerkeep_Reads_ok (now_agree _) (hS17.rowNow (k := 2) rfl) (hS17.rowNow (k := 0) rfl) hr18) ?_
       rintro v39 w39 ⟨Fr18, rfl, hT39⟩
       have hS39 := hS17.lent hT39
       refine W_move rfl rfl ?_
       refine W_known (t := 97) true rfl hb25 ?_
       refine W_guard_yes rfl ?_
       refine W_move rfl rfl ?_
       refine W_guard_yes rfl ?_
       refine W_move rfl rfl ?_
       refine W_guard_yes rfl ?_
       have hy40 := hr19
       rw [only_t hb25] at hy40
       refine W_call rfl Ty.named20 rfl (cellarerkeep_Ints_ok (now_agree _) (hS39.rowNow (k := 3) rfl) (hS39.rowNow (k := 1) rfl) hy40) ?_
       rintro v41 w41 ⟨Fr19, rfl, hT41⟩
       have hS41 := hS39.lent hT41
       refine W_pick_t rfl rfl rfl ?_
       refine W_move rfl rfl ?_
       refine W_known (t := 102) true rfl hb26 ?_
       refine W_guard_yes rfl ?_
       refine W_move rfl rfl ?_
       refine W_guard_yes rfl ?_
       have hy42 := hr20
       rw [only_t (by first | rfl | (rw [hb25, hb26]; first | done | rfl) | simp [hb25, hb26, hb27])] at hy42
       refine W_call rfl Ty.named29 rfl (plan_Sort_ok (now_agree _) (hS41.rowNow (k := 5) rfl) hy42) ?_
       rintro ur20_0 w43 ⟨Fr20, _, rfl, hT43⟩
       have hS43 := hS41.lentFlat hT43 ⟨fun h => h, trivial⟩
       refine W_guard_yes rfl ?_
       refine W_move rfl rfl ?_
       refine W_guard_yes rfl ?_
       have hy44 := hr21
       rw [only_t (by first | rfl | (rw [hb25, hb26]; first | done | rfl) | simp [hb25, hb26, hb27])] at hy44
       refine W_call rfl Ty.named29 rfl (plan_Sort_ok (now_agree _) (hS43.rowNow (k := 7) rfl) hy44) ?_
       rintro ur21_0 w45 ⟨Fr21, _, rfl, hT45⟩
       have hS45 := hS43.lentFlat hT45 ⟨fun h => h, trivial⟩
       refine W_guard_yes rfl ?_
       have hy46 := hr22
       rw [only_t (by first | rfl | (rw [hb25, hb26]; first | done | rfl) | simp [hb25, hb26, hb27])] at hy46
       refine W_call rfl Ty.named28 rfl (cellarerkeep_Locs_ok (now_agree _) (hS45.rowNow (k := 1) rfl) (hS45.rowNow (k := 0) rfl) hy46) ?_
       rintro v47 w47 ⟨Fr22, rfl, hT47⟩
       have hS47 := hS45.lent hT47
       refine W_pick_t rfl rfl rfl ?_
       refine W_move rfl rfl ?_
       refine W_known (t := 109) false rfl hb27 ?_
       refine W_guard_no rfl rfl rfl rfl rfl ?_
       refine W_pick_f rfl rfl rfl ?_
       refine W_assign rfl rfl ?_
       refine W_nil ?_
       exact N_join _ ⟨rfl, Fr14, (Frz.le.refl _), hS47.pick [2, 3, 4, 5, 6, 7, 8] (by decide)⟩ ⟨(look_bool rfl (by first | rfl | (rw [hb25, hb26, hb27]; first | done | rfl) | simp [hb25, hb26, hb27])), trivial⟩
     ·
      refine C_region ?_
      refine W_move rfl rfl ?_
      refine W_move rfl rfl ?_
      refine W_call rfl Ty.named21 rfl (cellarerkeep_Reads_ok (now_agree _) (hS17.rowNow (k := 2) rfl) (hS17.rowNow (k := 0) rfl) hr18) ?_
      rintro v48 w48 ⟨Fr18, rfl, hT48⟩
      have hS48 := hS17.lent hT48
      refine W_move rfl rfl ?_
      refine W_known (t := 97) true rfl hb25 ?_
      refine W_guard_yes rfl ?_
      refine W_move rfl rfl ?_
      refine W_guard_yes rfl ?_
      refine W_move rfl rfl ?_
      refine W_guard_yes rfl ?_
      have hy49 := hr19
      rw [only_t hb25] at hy49
      refine W_call rfl Ty.named20 rfl (cellarerkeep_Ints_ok (now_agree _) (hS48.rowNow (k := 3) rfl) (hS48.rowNow (k := 1) rfl) hy49) ?_
      rintro v50 w50 ⟨Fr19, rfl, hT50⟩
      have hS50 := hS48.lent hT50
      refine W_pick_t rfl rfl rfl ?_
      refine W_move rfl rfl ?_
      refine W_known (t := 102) false rfl hb26 ?_
      refine W_guard_no rfl rfl rfl rfl rfl ?_
      refine W_guard_no rfl rfl rfl rfl rfl ?_
      refine W_guard_no rfl rfl rfl rfl rfl ?_
      refine W_guard_no rfl rfl rfl rfl rfl ?_
      refine W_guard_no rfl rfl rfl rfl rfl ?_
      refine W_pick_f rfl rfl rfl ?_
      refine W_move rfl rfl ?_
      refine W_guard_no rfl rfl rfl rfl rfl ?_
      refine W_pick_f rfl rfl rfl ?_
      refine W_assign rfl rfl ?_
      refine W_nil ?_
      exact N_join _ ⟨rfl, Fr14, (Frz.le.refl _), hS50⟩ ⟨(look_bool rfl (by first | rfl | (rw [hb25, hb26]; first | done | rfl) | simp [hb25, hb26])), trivial⟩
    ·
     refine C_region ?_
     refine W_move rfl rfl ?_
     refine W_move rfl rfl ?_
     refine W_call rfl Ty.named21 rfl (cellarerkeep_Reads_ok (now_agree _) (hS17.rowNow (k := 2) rfl) (hS17.rowNow (k := 0) rfl) hr18) ?_
     rintro v51 w51 ⟨Fr18, rfl, hT51⟩
     have hS51 := hS17.lent hT51
     refine W_move rfl rfl ?_
     refine W_known (t := 97) false rfl hb25 ?_
     refine W_guard_no rfl rfl rfl rfl rfl ?_
     refine W_guard_no rfl rfl rfl rfl rfl ?_
     refine W_guard_no rfl rfl rfl rfl rfl ?_
     refine W_pick_f rfl rfl rfl ?_
     refine W_move rfl rfl ?_
     refine W_guard_no rfl rfl rfl rfl rfl ?_
     refine W_guard_no rfl rfl rfl rfl rfl ?_
     refine W_guard_no rfl rfl rfl rfl rfl ?_
     refine W_guard_no rfl rfl rfl rfl rfl ?_
     refine W_guard_no rfl rfl rfl rfl rfl ?_
     refine W_pick_f rfl rfl rfl ?_
     refine W_move rfl rfl ?_
     refine W_guard_no rfl rfl rfl rfl rfl ?_
     refine W_pick_f rfl rfl rfl ?_
     refine W_assign rfl rfl ?_
     refine W_nil ?_
     exact N_join _ ⟨rfl, Fr14, (Frz.le.refl _), hS51⟩ ⟨(look_bool rfl (by first | rfl | (rw [hb25]; first | done | rfl) | simp [hb25])), trivial⟩
   rintro E w24 ⟨rfl, F24, le24, hS24⟩
   refine N_code ?_
   obtain rfl := Option.some.inj H
   refine C_ret rfl rfl ?_
   exact ⟨F24, rfl, hS24.pick [] (by decide)⟩

def cellarerlaw21_PlanWithout.k2 (x0 : List Want) (l10 : List Want) : Option Bool :=
  bd (plan_Order l10) fun r11 =>
  bd (only (decide ((r11.1.length : Int) = 0) && decide ((r11.2.length : Int) = (x0.length : Int))) (cellarerlaw21_wakes) false) fun r13 =>
  some ((decide ((r11.1.length : Int) = 0) && decide ((r11.2.length : Int) = (x0.length : Int))) && r13)


def cellarerlaw21_PlanWithout.k4 (i20 : Int) (rec22 : (Int × (List Want)) → Option Bool) (l25 : List Want) : Option Bool :=
  rec22 (wr (i20 + 1), l25)


def cellarerlaw21_PlanWithout.l5 (i20 : Int) (rec22 : (Int × (List Want)) → Option Bool) (r26 : (List Read) × (List Int)) (rec32 : (Int × (List Want)) → Option Bool) : (Int × (List Want)) → Option Bool
  | (i30, l31) =>
    if decide (i30 < (r26.1.length : Int)) then
      bd (ix r26.1 i30) fun x34 =>
      bd (only (!(decide (x34.want < 0) || decide ((l31.length : Int) ≤ x34.want))) (ix l31 x34.want) (Want.mk (List.replicate 32 0) [])) fun x37 =>
      bd (only (!((decide (x34.want < 0) || decide ((l31.length : Int) ≤ x34.want)) || decide ((x37.locs.length : Int) = 0))) (ix l31 x34.want) (Want.mk (List.replicate 32 0) [])) fun x39 =>
      bd (only (!((decide (x34.want < 0) || decide ((l31.length : Int) ≤ x34.want)) || decide ((x37.locs.length : Int) = 0))) (ix x39.locs 0) (Loc.mk 0 0 0 0)) fun x41 =>
      bd (only (!((decide (x34.want < 0) || decide ((l31.length : Int) ≤ x34.want)) || decide ((x37.locs.length : Int) = 0))) (ix r26.1 i30) (Read.mk 0 (Loc.mk 0 0 0 0))) fun x43 =>
      bd (only (!((decide (x34.want < 0) || decide ((l31.length : Int) ≤ x34.want)) || decide ((x37.locs.length : Int) = 0))) (cellarerkeep_Loc x41 x43.loc) false) fun r45 =>
      if (((decide (x34.want < 0) || decide ((l31.length : Int) ≤ x34.want)) || decide ((x37.locs.length : Int) = 0)) || (!r45)) then
        some false
      else
        bd (ix l31 x34.want) fun x195 =>
        bd (cut (α := Loc) x195.locs 1 (x195.locs.length : Int)) fun l197 =>
        rec32 (wr (i30 + 1), (l31.set x34.want.toNat (Want.mk x195.id l197)))
    else
      cellarerlaw21_PlanWithout.k4 i20 rec22 l31


def cellarerlaw21_PlanWithout.l3 (x0 : List Want) (i5 : Int) (rec22 : (Int × (List Want)) → Option Bool) : (Int × (List Want)) → Option Bool
  | (i20, l21) =>
    if decide (i20 < i5) then
      bd (plan_Order l21) fun r26 =>
      if decide ((r26.1.length : Int) = 0) then
        some false
      else
        loop (cellarerlaw21_PlanWithout.l5 i20 rec22 r26) (0, l21)
    else
      cellarerlaw21_PlanWithout.k2 x0 l21


def cellarerlaw21_PlanWithout.k1 (x0 : List Want) (i5 : Int) (l6 : List Want) : Option Bool :=
  loop (cellarerlaw21_PlanWithout.l3 x0 i5) (0, l6)


def cellarerlaw21_PlanWithout.l6 (x0 : List Want) (rec208 : (Int × (List Want) × Int) → Option Bool) : (Int × (List Want) × Int) → Option Bool
  | (i203, l204, i207) =>
    if decide (i207 < (x0.length : Int)) then
      bd (ix x0 i207) fun x210 =>
      bd (plan_Sort x210.locs) fun r212 =>
      bd (app (α := Want) l204 [(Want.mk x210.id r212)]) fun l321 =>
      rec208 ((if i203 < (r212.length : Int) then (r212.length : Int) else i203), l321, wr (i207 + 1))
    else
      cellarerlaw21_PlanWithout.k1 x0 i203 l204

def cellarerlaw21_PlanWithout (x0 : List Want) : Option Bool :=
  bd (cellarerlaw21_Heavy x0) fun r1 =>
  if r1 then
    some true
  else
    loop (cellarerlaw21_PlanWithout.l6 x0) (0, [], 0)

theorem cellarerlaw21_PlanWithout_ok {F : Frz} {w : World} {x0 : List Want} {r : Bool} {v0 : Value} (hA : Agree F w.heap) (h0 : SlF Want.t F v0 x0) (H : cellarerlaw21_PlanWithout x0 = some r) : Ret Try.prog 9 #[v0] w fun v w' => ∃ (F' : Frz), v = .bool r ∧ St [] w F F' [] w' := by
 refine Ret_of (args := [v0]) Go.Proofs.Try.func9 rfl rfl ?_
 change C _ _ _ _ [(0, v0)] _
 have hS := St.entry hA
 dsimp only [cellarerlaw21_PlanWithout] at H
 refine C_seq ?_
 refine C_region ?_
 refine W_assign rfl rfl ?_
 refine W_nil ?_
 refine N_code ?_
 refine C_seq ?_
 refine C_seq ?_
 obtain ⟨r1, hr1, H⟩ := bd_some H
 refine C_region ?_
 refine W_move rfl rfl ?_
 refine W_call rfl Ty.named26 rfl (cellarerlaw21_Heavy_ok hS.agree h0 hr1) ?_
 rintro v2 w2 ⟨Fr1, rfl, hT2⟩
 have hS2 := hS.lent hT2
 refine W_nil ?_
 refine N_code ?_
 refine C_cond rfl (fun hc3 => ?_) (fun hc3 => ?_)
 ·
  rw [if_t hc3] at H
  refine C_seq ?_
  refine C_region ?_
  refine W_assign rfl rfl ?_
  refine W_nil ?_
  refine N_code ?_
  obtain rfl := Option.some.inj H
  refine C_ret rfl rfl ?_
  exact ⟨F, rfl, hS2⟩
 ·
  rw [if_f hc3] at H
  refine C_skip ?_
  refine N_code ?_
  refine C_seq ?_
  refine C_region ?_
  refine W_assign rfl rfl ?_
  refine W_nil ?_
  refine N_code ?_
  refine C_seq ?_
  refine C_region ?_
  refine W_assign rfl rfl ?_
  refine W_nil ?_
  refine N_code ?_
  refine C_seq_join (fun E wq => ∃ i5 : Int, ∃ l6 : List Want, cellarerlaw21_PlanWithout.k1 x0 i5 l6 = some r ∧ ∃ (F4 : Frz) (u7 : Value), E = [(0, v0), (3, .int .i64 i5), (4, u7)] ∧ F.le F4 ∧ St [] w F F4 [.row Want.t 52 u7 l6] wq) ?_ ?_
  ·
   refine C_seq ?_
   refine C_region ?_
   refine W_assign rfl rfl ?_
   refine W_nil ?_
   refine N_code ?_
   refine C_block ?_
   refine C_loopM (fun (s : Int × (List Want) × Int) E wq => ∃ (F202 : Frz) (u205 : Value), E = [(0, v0), (3, .int .i64 s.1), (4, u205), (5, .int .i64 s.2.2)] ∧ F.le F202 ∧ St [] w F F202 [.row Want.t 52 u205 s.2.1] wq) H ?_ ?_
   ·
    have hS325 := hS2.nilRow Want.t 52
    exact ⟨_, ⟨F, (.slice none 0 0), rfl, (Frz.le.refl _), hS325⟩, ⟨rfl, rfl, rfl, rfl, trivial⟩⟩
   ·
    rintro rec208 ⟨i203, l204, i207⟩ E w202 hI H
    try dsimp only at hI
    obtain ⟨F202, u205, rfl, le202, hS202⟩ := hI
    dsimp only [cellarerlaw21_PlanWithout.l6] at H
    refine C_seq ?_
    refine C_seq ?_
    refine C_region ?_
    refine W_move rfl rfl ?_
    refine W_move rfl rfl ?_
    refine W_lenv rfl Go.Proofs.Try.underlying47 rfl h0.ln ?_
    refine W_lss rfl rfl rfl ?_
    refine W_nil ?_
    refine N_code ?_
    refine C_cond rfl (fun hc209 => ?_) (fun hc209 => ?_)
    ·
     rw [if_t hc209] at H
     refine C_skip ?_
     refine N_code ?_
     refine C_seq ?_
     refine C_block ?_
     refine C_seq ?_
     obtain ⟨x210, hx210, H⟩ := bd_some H
     obtain ⟨r212, hr212, H⟩ := bd_some H
     obtain ⟨hp214, hy214⟩ := ix_some hx210
     obtain ⟨cs214, hr214, he214⟩ := (h0.mono le202).at_ hy214
     obtain ⟨ue211_0, rfl, hle211_0, hue211_0⟩ := hr214
     replace he214 : Elf _ _ 33 _ _ := he214
     apply C_drawJ (fun D vs wr => ∀ (b10 b11 b12 : Bool), D 10 = b10 → D 11 = b11 → D 12 = b12 → match b10, b11, b12 with | false, false, false => ∃ FJ : Frz, F202.le FJ ∧ St [] w F FJ [.row Want.t 52 u205 l204] wr | true, false, false => ∃ FJ : Frz, ∃ ur212_0 : Value, vs 10 = ur212_0 ∧ F202.le FJ ∧ St [] w F FJ [.row Loc.t 37 ur212_0 r212, .row Want.t 52 u205 l204] wr | true, true, false => ∃ FJ : Frz, ∃ ur212_0 : Value, vs 10 = ur212_0 ∧ vs 11 = .agg (Want.cells (Want.mk x210.id r212) ur212_0).toArray ∧ F202.le FJ ∧ (x210.id).length = 32 ∧ St [] w F FJ [.row Loc.t 37 ur212_0 r212, .row Want.t 52 u205 l204] wr | false, false, true => ∃ FJ : Frz, ∃ g213, vs 12 = pl g213 0 ∧ F202.le FJ ∧ St [] w F FJ [.box g213 52 (idCells (List.replicate 32 (0 : UInt8)) ++ [.slice none 0 0]), .row Want.t 52 u205 l204] wr | true, false, true => ∃ FJ : Frz, ∃ ur212_0 : Value, ∃ g213, vs 10 = ur212_0 ∧ vs 12 = pl g213 0 ∧ F202.le FJ ∧ St [] w F FJ [.box g213 52 (idCells (List.replicate 32 (0 : UInt8)) ++ [.slice none 0 0]), .row Loc.t 37 ur212_0 r212, .row Want.t 52 u205 l204] wr | true, true, true => ∃ FJ : Frz, ∃ ur212_0 : Value, ∃ g213, vs 10 = ur212_0 ∧ vs 11 = .agg (Want.cells (Want.mk x210.id r212) ur212_0).toArray ∧ vs 12 = pl g213 0 ∧ F202.le FJ ∧ (x210.id).length = 32 ∧ St [] w F FJ [.box g213 52 (idCells (List.replicate 32 (0 : UInt8)) ++ [.slice none 0 0]), .row Loc.t 37 ur212_0 r212, .row Want.t 52 u205 l204] wr | _, _, _ => False) 13 [[], [], [0, 1], [2], [3], [], [], [5, 6], [7], [8], [9], [4, 10], []] [some (v0), some (.int .i64 i207), some (elp v0 (i207.toNat * 33)), some (elp v0 ((i207.toNat * 33) + 0)), some (.agg (idCells x210.id).toArray), some (v0), some (.int .i64 i207), some (elp v0 (i207.toNat * 33)), some (elp v0 ((i207.toNat * 33) + 32)), some (ue211_0), none, none, none] Ty.mixed rfl (by kernel_rfl) (by kernel_rfl) rfl
     ·
      intro vq223 b10 b11 b12 h10 h11 h12
      obtain rfl : b10 = false := h10.symm
      obtain rfl : b11 = false := h11.symm
      obtain rfl : b12 = false := h12.symm
      exact ⟨F202, (Frz.le.refl _), (hS202.below (below_drew _))⟩
     ·
      refine ⟨?_, ?_, ?_, ?_, ?_, ?_, ?_, ?_, ?_, ?_, ?_, ?_, ?_, trivial⟩
      ·
       intro w224 vq224 D224 hD224 hd224 hJ224
       rcases Bool.eq_false_or_eq_true (D224 10) with hb225 | hb225
       ·
        rcases Bool.eq_false_or_eq_true (D224 11) with hb226 | hb226
        ·
         rcases Bool.eq_false_or_eq_true (D224 12) with hb227 | hb227
         ·
          obtain ⟨FJ224, ur212_0, g213, he224_10, he224_11, he224_12, leJ224, hle211_0, hSJ224⟩ := (hJ224 true true true hb225 hb226 hb227)
          refine W_move rfl rfl ?_
          refine W_nil ?_
          exact N_stepJ rfl (fun u hu => Option.some.inj hu) (fun b10 b11 b12 h10 h11 h12 => by obtain rfl : b10 = true := h10.symm.trans hb225; obtain rfl : b11 = true := h11.symm.trans hb226; obtain rfl : b12 = true := h12.symm.trans hb227; exact ⟨FJ224, ur212_0, g213, he224_10, he224_11, he224_12, leJ224, hle211_0, hSJ224⟩)
         ·
          obtain ⟨FJ224, ur212_0, he224_10, he224_11, leJ224, hle211_0, hSJ224⟩ := (hJ224 true true false hb225 hb226 hb227)
          refine W_move rfl rfl ?_
          refine W_nil ?_
          exact N_stepJ rfl (fun u hu => Option.some.inj hu) (fun b10 b11 b12 h10 h11 h12 => by obtain rfl : b10 = true := h10.symm.trans hb225; obtain rfl : b11 = true := h11.symm.trans hb226; obtain rfl : b12 = false := h12.symm.trans hb227; exact ⟨FJ224, ur212_0, he224_10, he224_11, leJ224, hle211_0, hSJ224⟩)
        ·
         rcases Bool.eq_false_or_eq_true (D224 12) with hb228 | hb228
         ·
          obtain ⟨FJ224, ur212_0, g213, he224_10, he224_12, leJ224, hSJ224⟩ := (hJ224 true false true hb225 hb226 hb228)
          refine W_move rfl rfl ?_
          refine W_nil ?_
          exact N_stepJ rfl (fun u hu => Option.some.inj hu) (fun b10 b11 b12 h10 h11 h12 => by obtain rfl : b10 = true := h10.symm.trans hb225; obtain rfl : b11 = false := h11.symm.trans hb226; obtain rfl : b12 = true := h12.symm.trans hb228; exact ⟨FJ224, ur212_0, g213, he224_10, he224_12, leJ224, hSJ224⟩)
         ·
          obtain ⟨FJ224, ur212_0, he224_10, leJ224, hSJ224⟩ := (hJ224 true false false hb225 hb226 hb228)
          refine W_move rfl rfl ?_
          refine W_nil ?_
          exact N_stepJ rfl (fun u hu => Option.some.inj hu) (fun b10 b11 b12 h10 h11 h12 => by obtain rfl : b10 = true := h10.symm.trans hb225; obtain rfl : b11 = false := h11.symm.trans hb226; obtain rfl : b12 = false := h12.symm.trans hb228; exact ⟨FJ224, ur212_0, he224_10, leJ224, hSJ224⟩)
       ·
        rcases Bool.eq_false_or_eq_true (D224 11) with hb229 | hb229
        ·
         rcases Bool.eq_false_or_eq_true (D224 12) with hb230 | hb230
         ·
          exact False.elim (hJ224 false true true hb225 hb229 hb230)
         ·
          exact False.elim (hJ224 false true false hb225 hb229 hb230)
        ·
         rcases Bool.eq_false_or_eq_true (D224 12) with hb231 | hb231
         ·
          obtain ⟨FJ224, g213, he224_12, leJ224, hSJ224⟩ := (hJ224 false false true hb225 hb229 hb231)
          refine W_move rfl rfl ?_
          refine W_nil ?_
          exact N_stepJ rfl (fun u hu => Option.some.inj hu) (fun b10 b11 b12 h10 h11 h12 => by obtain rfl : b10 = false := h10.symm.trans hb225; obtain rfl : b11 = false := h11.symm.trans hb229; obtain rfl : b12 = true := h12.symm.trans hb231; exact ⟨FJ224, g213, he224_12, leJ224, hSJ224⟩)
         ·
          obtain ⟨FJ224, leJ224, hSJ224⟩ := (hJ224 false false false hb225 hb229 hb231)
          refine W_move rfl rfl ?_
          refine W_nil ?_
          exact N_stepJ rfl (fun u hu => Option.some.inj hu) (fun b10 b11 b12 h10 h11 h12 => by obtain rfl : b10 = false := h10.symm.trans hb225; obtain rfl : b11 = false := h11.symm.trans hb229; obtain rfl : b12 = false := h12.symm.trans hb231; exact ⟨FJ224, leJ224, hSJ224⟩)
      ·
       intro w232 vq232 D232 hD232 hd232 hJ232
       rcases Bool.eq_false_or_eq_true (D232 10) with hb233 | hb233
       ·
        rcases Bool.eq_false_or_eq_true (D232 11) with hb234 | hb234
        ·
         rcases Bool.eq_false_or_eq_true (D232 12) with hb235 | hb235
         ·
          obtain ⟨FJ232, ur212_0, g213, he232_10, he232_11, he232_12, leJ232, hle211_0, hSJ232⟩ := (hJ232 true true true hb233 hb234 hb235)
          refine W_move rfl rfl ?_
          refine W_nil ?_
          exact N_stepJ rfl (fun u hu => Option.some.inj hu) (fun b10 b11 b12 h10 h11 h12 => by obtain rfl : b10 = true := h10.symm.trans hb233; obtain rfl : b11 = true := h11.symm.trans hb234; obtain rfl : b12 = true := h12.symm.trans hb235; exact ⟨FJ232, ur212_0, g213, he232_10, he232_11, he232_12, leJ232, hle211_0, hSJ232⟩)
         ·
          obtain ⟨FJ232, ur212_0, he232_10, he232_11, leJ232, hle211_0, hSJ232⟩ := (hJ232 true true false hb233 hb234 hb235)
          refine W_move rfl rfl ?_
          refine W_nil ?_
          exact N_stepJ rfl (fun u hu => Option.some.inj hu) (fun b10 b11 b12 h10 h11 h12 => by obtain rfl : b10 = true := h10.symm.trans hb233; obtain rfl : b11 = true := h11.symm.trans hb234; obtain rfl : b12 = false := h12.symm.trans hb235; exact ⟨FJ232, ur212_0, he232_10, he232_11, leJ232, hle211_0, hSJ232⟩)
        ·
         rcases Bool.eq_false_or_eq_true (D232 12) with hb236 | hb236
         ·
          obtain ⟨FJ232, ur212_0, g213, he232_10, he232_12, leJ232, hSJ232⟩ := (hJ232 true false true hb233 hb234 hb236)
          refine W_move rfl rfl ?_
          refine W_nil ?_
          exact N_stepJ rfl (fun u hu => Option.some.inj hu) (fun b10 b11 b12 h10 h11 h12 => by obtain rfl : b10 = true := h10.symm.trans hb233; obtain rfl : b11 = false := h11.symm.trans hb234; obtain rfl : b12 = true := h12.symm.trans hb236; exact ⟨FJ232, ur212_0, g213, he232_10, he232_12, leJ232, hSJ232⟩)
         ·
          obtain ⟨FJ232, ur212_0, he232_10, leJ232, hSJ232⟩ := (hJ232 true false false hb233 hb234 hb236)
          refine W_move rfl rfl ?_
          refine W_nil ?_
          exact N_stepJ rfl (fun u hu => Option.some.inj hu) (fun b10 b11 b12 h10 h11 h12 => by obtain rfl : b10 = true := h10.symm.trans hb233; obtain rfl : b11 = false := h11.symm.trans hb234; obtain rfl : b12 = false := h12.symm.trans hb236; exact ⟨FJ232, ur212_0, he232_10, leJ232, hSJ232⟩)
       ·
        rcases Bool.eq_false_or_eq_true (D232 11) with hb237 | hb237
        ·
         rcases Bool.eq_false_or_eq_true (D232 12) with hb238 | hb238
         ·
          exact False.elim (hJ232 false true true hb233 hb237 hb238)
         ·
          exact False.elim (hJ232 false true false hb233 hb237 hb238)
        ·
         rcases Bool.eq_false_or_eq_true (D232 12) with hb239 | hb239
         ·
          obtain ⟨FJ232, g213, he232_12, leJ232, hSJ232⟩ := (hJ232 false false true hb233 hb237 hb239)
          refine W_move rfl rfl ?_
          refine W_nil ?_
          exact N_stepJ rfl (fun u hu => Option.some.inj hu) (fun b10 b11 b12 h10 h11 h12 => by obtain rfl : b10 = false := h10.symm.trans hb233; obtain rfl : b11 = false := h11.symm.trans hb237; obtain rfl : b12 = true := h12.symm.trans hb239; exact ⟨FJ232, g213, he232_12, leJ232, hSJ232⟩)
         ·
          obtain ⟨FJ232, leJ232, hSJ232⟩ := (hJ232 false false false hb233 hb237 hb239)
          refine W_move rfl rfl ?_
          refine W_nil ?_
          exact N_stepJ rfl (fun u hu => Option.some.inj hu) (fun b10 b11 b12 h10 h11 h12 => by obtain rfl : b10 = false := h10.symm.trans hb233; obtain rfl : b11 = false := h11.symm.trans hb237; obtain rfl : b12 = false := h12.symm.trans hb239; exact ⟨FJ232, leJ232, hSJ232⟩)
      ·
       intro w240 vq240 D240 hD240 hd240 hJ240
       rcases Bool.eq_false_or_eq_true (D240 10) with hb241 | hb241
       ·
        rcases Bool.eq_false_or_eq_true (D240 11) with hb242 | hb242
        ·
         rcases Bool.eq_false_or_eq_true (D240 12) with hb243 | hb243
         ·
          obtain ⟨FJ240, ur212_0, g213, he240_10, he240_11, he240_12, leJ240, hle211_0, hSJ240⟩ := (hJ240 true true true hb241 hb242 hb243)
          refine W_ix rfl Go.Proofs.Try.underlying47 Ty.cells52 Ty.info52 rfl rfl (he214.el (hSJ240.agree.le leJ240)) hp214 rfl ?_
          refine W_nil ?_
          exact N_stepJ rfl (fun u hu => Option.some.inj hu) (fun b10 b11 b12 h10 h11 h12 => by obtain rfl : b10 = true := h10.symm.trans hb241; obtain rfl : b11 = true := h11.symm.trans hb242; obtain rfl : b12 = true := h12.symm.trans hb243; exact ⟨FJ240, ur212_0, g213, he240_10, he240_11, he240_12, leJ240, hle211_0, hSJ240⟩)
         ·
          obtain ⟨FJ240, ur212_0, he240_10, he240_11, leJ240, hle211_0, hSJ240⟩ := (hJ240 true true false hb241 hb242 hb243)
          refine W_ix rfl Go.Proofs.Try.underlying47 Ty.cells52 Ty.info52 rfl rfl (he214.el (hSJ240.agree.le leJ240)) hp214 rfl ?_
          refine W_nil ?_
          exact N_stepJ rfl (fun u hu => Option.some.inj hu) (fun b10 b11 b12 h10 h11 h12 => by obtain rfl : b10 = true := h10.symm.trans hb241; obtain rfl : b11 = true := h11.symm.trans hb242; obtain rfl : b12 = false := h12.symm.trans hb243; exact ⟨FJ240, ur212_0, he240_10, he240_11, leJ240, hle211_0, hSJ240⟩)
        ·
         rcases Bool.eq_false_or_eq_true (D240 12) with hb244 | hb244
         ·
          obtain ⟨FJ240, ur212_0, g213, he240_10, he240_12, leJ240, hSJ240⟩ := (hJ240 true false true hb241 hb242 hb244)
          refine W_ix rfl Go.Proofs.Try.underlying47 Ty.cells52 Ty.info52 rfl rfl (he214.el (hSJ240.agree.le leJ240)) hp214 rfl ?_
          refine W_nil ?_
          exact N_stepJ rfl (fun u hu => Option.some.inj hu) (fun b10 b11 b12 h10 h11 h12 => by obtain rfl : b10 = true := h10.symm.trans hb241; obtain rfl : b11 = false := h11.symm.trans hb242; obtain rfl : b12 = true := h12.symm.trans hb244; exact ⟨FJ240, ur212_0, g213, he240_10, he240_12, leJ240, hSJ240⟩)
         ·
          obtain ⟨FJ240, ur212_0, he240_10, leJ240, hSJ240⟩ := (hJ240 true false false hb241 hb242 hb244)
          refine W_ix rfl Go.Proofs.Try.underlying47 Ty.cells52 Ty.info52 rfl rfl (he214.el (hSJ240.agree.le leJ240)) hp214 rfl ?_
          refine W_nil ?_
          exact N_stepJ rfl (fun u hu => Option.some.inj hu) (fun b10 b11 b12 h10 h11 h12 => by obtain rfl : b10 = true := h10.symm.trans hb241; obtain rfl : b11 = false := h11.symm.trans hb242; obtain rfl : b12 = false := h12.symm.trans hb244; exact ⟨FJ240, ur212_0, he240_10, leJ240, hSJ240⟩)
       ·
        rcases Bool.eq_false_or_eq_true (D240 11) with hb245 | hb245
        ·
         rcases Bool.eq_false_or_eq_true (D240 12) with hb246 | hb246
         ·
          exact False.elim (hJ240 false true true hb241 hb245 hb246)
         ·
          exact False.elim (hJ240 false true false hb241 hb245 hb246)
        ·
         rcases Bool.eq_false_or_eq_true (D240 12) with hb247 | hb247
         ·
          obtain ⟨FJ240, g213, he240_12, leJ240, hSJ240⟩ := (hJ240 false false true hb241 hb245 hb247)
          refine W_ix rfl Go.Proofs.Try.underlying47 Ty.cells52 Ty.info52 rfl rfl (he214.el (hSJ240.agree.le leJ240)) hp214 rfl ?_
          refine W_nil ?_
          exact N_stepJ rfl (fun u hu => Option.some.inj hu) (fun b10 b11 b12 h10 h11 h12 => by obtain rfl : b10 = false := h10.symm.trans hb241; obtain rfl : b11 = false := h11.symm.trans hb245; obtain rfl : b12 = true := h12.symm.trans hb247; exact ⟨FJ240, g213, he240_12, leJ240, hSJ240⟩)
         ·
          obtain ⟨FJ240, leJ240, hSJ240⟩ := (hJ240 false false false hb241 hb245 hb247)
          refine W_ix rfl Go.Proofs.Try.underlying47 Ty.cells52 Ty.info52 rfl rfl (he214.el (hSJ240.agree.le leJ240)) hp214 rfl ?_
          refine W_nil ?_
          exact N_stepJ rfl (fun u hu => Option.some.inj hu) (fun b10 b11 b12 h10 h11 h12 => by obtain rfl : b10 = false := h10.symm.trans hb241; obtain rfl : b11 = false := h11.symm.trans hb245; obtain rfl : b12 = false := h12.symm.trans hb247; exact ⟨FJ240, leJ240, hSJ240⟩)
      ·
       intro w248 vq248 D248 hD248 hd248 hJ248
       rcases Bool.eq_false_or_eq_true (D248 10) with hb249 | hb249
       ·
        rcases Bool.eq_false_or_eq_true (D248 11) with hb250 | hb250
        ·
         rcases Bool.eq_false_or_eq_true (D248 12) with hb251 | hb251
         ·
          obtain ⟨FJ248, ur212_0, g213, he248_10, he248_11, he248_12, leJ248, hle211_0, hSJ248⟩ := (hJ248 true true true hb249 hb250 hb251)
          refine W_fld 0 rfl Ty.field52_0 rfl (he214.el (hSJ248.agree.le leJ248)) ?_
          refine W_nil ?_
          exact N_stepJ rfl (fun u hu => Option.some.inj hu) (fun b10 b11 b12 h10 h11 h12 => by obtain rfl : b10 = true := h10.symm.trans hb249; obtain rfl : b11 = true := h11.symm.trans hb250; obtain rfl : b12 = true := h12.symm.trans hb251; exact ⟨FJ248, ur212_0, g213, he248_10, he248_11, he248_12, leJ248, hle211_0, hSJ248⟩)
         ·
          obtain ⟨FJ248, ur212_0, he248_10, he248_11, leJ248, hle211_0, hSJ248⟩ := (hJ248 true true false hb249 hb250 hb251)
          refine W_fld 0 rfl Ty.field52_0 rfl (he214.el (hSJ248.agree.le leJ248)) ?_
          refine W_nil ?_
          exact N_stepJ rfl (fun u hu => Option.some.inj hu) (fun b10 b11 b12 h10 h11 h12 => by obtain rfl : b10 = true := h10.symm.trans hb249; obtain rfl : b11 = true := h11.symm.trans hb250; obtain rfl : b12 = false := h12.symm.trans hb251; exact ⟨FJ248, ur212_0, he248_10, he248_11, leJ248, hle211_0, hSJ248⟩)
        ·
         rcases Bool.eq_false_or_eq_true (D248 12) with hb252 | hb252
         ·
          obtain ⟨FJ248, ur212_0, g213, he248_10, he248_12, leJ248, hSJ248⟩ := (hJ248 true false true hb249 hb250 hb252)
          refine W_fld 0 rfl Ty.field52_0 rfl (he214.el (hSJ248.agree.le leJ248)) ?_
          refine W_nil ?_
          exact N_stepJ rfl (fun u hu => Option.some.inj hu) (fun b10 b11 b12 h10 h11 h12 => by obtain rfl : b10 = true := h10.symm.trans hb249; obtain rfl : b11 = false := h11.symm.trans hb250; obtain rfl : b12 = true := h12.symm.trans hb252; exact ⟨FJ248, ur212_0, g213, he248_10, he248_12, leJ248, hSJ248⟩)
         ·
          obtain ⟨FJ248, ur212_0, he248_10, leJ248, hSJ248⟩ := (hJ248 true false false hb249 hb250 hb252)
          refine W_fld 0 rfl Ty.field52_0 rfl (he214.el (hSJ248.agree.le leJ248)) ?_
          refine W_nil ?_
          exact N_stepJ rfl (fun u hu => Option.some.inj hu) (fun b10 b11 b12 h10 h11 h12 => by obtain rfl : b10 = true := h10.symm.trans hb249; obtain rfl : b11 = false := h11.symm.trans hb250; obtain rfl : b12 = false := h12.symm.trans hb252; exact ⟨FJ248, ur212_0, he248_10, leJ248, hSJ248⟩)
       ·
        rcases Bool.eq_false_or_eq_true (D248 11) with hb253 | hb253
        ·
         rcases Bool.eq_false_or_eq_true (D248 12) with hb254 | hb254
         ·
          exact False.elim (hJ248 false true true hb249 hb253 hb254)
         ·
          exact False.elim (hJ248 false true false hb249 hb253 hb254)
        ·
         rcases Bool.eq_false_or_eq_true (D248 12) with hb255 | hb255
         ·
          obtain ⟨FJ248, g213, he248_12, leJ248, hSJ248⟩ := (hJ248 false false true hb249 hb253 hb255)
          refine W_fld 0 rfl Ty.field52_0 rfl (he214.el (hSJ248.agree.le leJ248)) ?_
          refine W_nil ?_
          exact N_stepJ rfl (fun u hu => Option.some.inj hu) (fun b10 b11 b12 h10 h11 h12 => by obtain rfl : b10 = false := h10.symm.trans hb249; obtain rfl : b11 = false := h11.symm.trans hb253; obtain rfl : b12 = true := h12.symm.trans hb255; exact ⟨FJ248, g213, he248_12, leJ248, hSJ248⟩)
         ·
          obtain ⟨FJ248, leJ248, hSJ248⟩ := (hJ248 false false false hb249 hb253 hb255)
          refine W_fld 0 rfl Ty.field52_0 rfl (he214.el (hSJ248.agree.le leJ248)) ?_
          refine W_nil ?_
          exact N_stepJ rfl (fun u hu => Option.some.inj hu) (fun b10 b11 b12 h10 h11 h12 => by obtain rfl : b10 = false := h10.symm.trans hb249; obtain rfl : b11 = false := h11.symm.trans hb253; obtain rfl : b12 = false := h12.symm.trans hb255; exact ⟨FJ248, leJ248, hSJ248⟩)
      ·
       intro w256 vq256 D256 hD256 hd256 hJ256
       rcases Bool.eq_false_or_eq_true (D256 10) with hb257 | hb257
       ·
        rcases Bool.eq_false_or_eq_true (D256 11) with hb258 | hb258
        ·
         rcases Bool.eq_false_or_eq_true (D256 12) with hb259 | hb259
         ·
          obtain ⟨FJ256, ur212_0, g213, he256_10, he256_11, he256_12, leJ256, hle211_0, hSJ256⟩ := (hJ256 true true true hb257 hb258 hb259)
          refine W_ldg 0 ((idCells x210.id)) rfl Ty.agg50 Ty.size50 rfl (he214.el (hSJ256.agree.le leJ256)) (by omega) (fun q u h => sub_at (post := [ue211_0]) rfl h) ?_
          refine W_nil ?_
          exact N_stepJ rfl (fun u hu => Option.some.inj hu) (fun b10 b11 b12 h10 h11 h12 => by obtain rfl : b10 = true := h10.symm.trans hb257; obtain rfl : b11 = true := h11.symm.trans hb258; obtain rfl : b12 = true := h12.symm.trans hb259; exact ⟨FJ256, ur212_0, g213, he256_10, he256_11, he256_12, leJ256, hle211_0, hSJ256⟩)
         ·
          obtain ⟨FJ256, ur212_0, he256_10, he256_11, leJ256, hle211_0, hSJ256⟩ := (hJ256 true true false hb257 hb258 hb259)
          refine W_ldg 0 ((idCells x210.id)) rfl Ty.agg50 Ty.size50 rfl (he214.el (hSJ256.agree.le leJ256)) (by omega) (fun q u h => sub_at (post := [ue211_0]) rfl h) ?_
          refine W_nil ?_
          exact N_stepJ rfl (fun u hu => Option.some.inj hu) (fun b10 b11 b12 h10 h11 h12 => by obtain rfl : b10 = true := h10.symm.trans hb257; obtain rfl : b11 = true := h11.symm.trans hb258; obtain rfl : b12 = false := h12.symm.trans hb259; exact ⟨FJ256, ur212_0, he256_10, he256_11, leJ256, hle211_0, hSJ256⟩)
        ·
         rcases Bool.eq_false_or_eq_true (D256 12) with hb260 | hb260
         ·
          obtain ⟨FJ256, ur212_0, g213, he256_10, he256_12, leJ256, hSJ256⟩ := (hJ256 true false true hb257 hb258 hb260)
          refine W_ldg 0 ((idCells x210.id)) rfl Ty.agg50 Ty.size50 rfl (he214.el (hSJ256.agree.le leJ256)) (by omega) (fun q u h => sub_at (post := [ue211_0]) rfl h) ?_
          refine W_nil ?_
          exact N_stepJ rfl (fun u hu => Option.some.inj hu) (fun b10 b11 b12 h10 h11 h12 => by obtain rfl : b10 = true := h10.symm.trans hb257; obtain rfl : b11 = false := h11.symm.trans hb258; obtain rfl : b12 = true := h12.symm.trans hb260; exact ⟨FJ256, ur212_0, g213, he256_10, he256_12, leJ256, hSJ256⟩)
         ·
          obtain ⟨FJ256, ur212_0, he256_10, leJ256, hSJ256⟩ := (hJ256 true false false hb257 hb258 hb260)
          refine W_ldg 0 ((idCells x210.id)) rfl Ty.agg50 Ty.size50 rfl (he214.el (hSJ256.agree.le leJ256)) (by omega) (fun q u h => sub_at (post := [ue211_0]) rfl h) ?_
          refine W_nil ?_
          exact N_stepJ rfl (fun u hu => Option.some.inj hu) (fun b10 b11 b12 h10 h11 h12 => by obtain rfl : b10 = true := h10.symm.trans hb257; obtain rfl : b11 = false := h11.symm.trans hb258; obtain rfl : b12 = false := h12.symm.trans hb260; exact ⟨FJ256, ur212_0, he256_10, leJ256, hSJ256⟩)
       ·
        rcases Bool.eq_false_or_eq_true (D256 11) with hb261 | hb261
        ·
         rcases Bool.eq_false_or_eq_true (D256 12) with hb262 | hb262
         ·
          exact False.elim (hJ256 false true true hb257 hb261 hb262)
         ·
          exact False.elim (hJ256 false true false hb257 hb261 hb262)
        ·
         rcases Bool.eq_false_or_eq_true (D256 12) with hb263 | hb263
         ·
          obtain ⟨FJ256, g213, he256_12, leJ256, hSJ256⟩ := (hJ256 false false true hb257 hb261 hb263)
          refine W_ldg 0 ((idCells x210.id)) rfl Ty.agg50 Ty.size50 rfl (he214.el (hSJ256.agree.le leJ256)) (by omega) (fun q u h => sub_at (post := [ue211_0]) rfl h) ?_
          refine W_nil ?_
          exact N_stepJ rfl (fun u hu => Option.some.inj hu) (fun b10 b11 b12 h10 h11 h12 => by obtain rfl : b10 = false := h10.symm.trans hb257; obtain rfl : b11 = false := h11.symm.trans hb261; obtain rfl : b12 = true := h12.symm.trans hb263; exact ⟨FJ256, g213, he256_12, leJ256, hSJ256⟩)
         ·
          obtain ⟨FJ256, leJ256, hSJ256⟩ := (hJ256 false false false hb257 hb261 hb263)
          refine W_ldg 0 ((idCells x210.id)) rfl Ty.agg50 Ty.size50 rfl (he214.el (hSJ256.agree.le leJ256)) (by omega) (fun q u h => sub_at (post := [ue211_0]) rfl h) ?_
          refine W_nil ?_
          exact N_stepJ rfl (fun u hu => Option.some.inj hu) (fun b10 b11 b12 h10 h11 h12 => by obtain rfl : b10 = false := h10.symm.trans hb257; obtain rfl : b11 = false := h11.symm.trans hb261; obtain rfl : b12 = false := h12.symm.trans hb263; exact ⟨FJ256, leJ256, hSJ256⟩)
      ·
       intro w264 vq264 D264 hD264 hd264 hJ264
       rcases Bool.eq_false_or_eq_true (D264 10) with hb265 | hb265
       ·
        rcases Bool.eq_false_or_eq_true (D264 11) with hb266 | hb266
        ·
         rcases Bool.eq_false_or_eq_true (D264 12) with hb267 | hb267
         ·
          obtain ⟨FJ264, ur212_0, g213, he264_10, he264_11, he264_12, leJ264, hle211_0, hSJ264⟩ := (hJ264 true true true hb265 hb266 hb267)
          refine W_move rfl rfl ?_
          refine W_nil ?_
          exact N_stepJ rfl (fun u hu => Option.some.inj hu) (fun b10 b11 b12 h10 h11 h12 => by obtain rfl : b10 = true := h10.symm.trans hb265; obtain rfl : b11 = true := h11.symm.trans hb266; obtain rfl : b12 = true := h12.symm.trans hb267; exact ⟨FJ264, ur212_0, g213, he264_10, he264_11, he264_12, leJ264, hle211_0, hSJ264⟩)
         ·
          obtain ⟨FJ264, ur212_0, he264_10, he264_11, leJ264, hle211_0, hSJ264⟩ := (hJ264 true true false hb265 hb266 hb267)
          refine W_move rfl rfl ?_
          refine W_nil ?_
          exact N_stepJ rfl (fun u hu => Option.some.inj hu) (fun b10 b11 b12 h10 h11 h12 => by obtain rfl : b10 = true := h10.symm.trans hb265; obtain rfl : b11 = true := h11.symm.trans hb266; obtain rfl : b12 = false := h12.symm.trans hb267; exact ⟨FJ264, ur212_0, he264_10, he264_11, leJ264, hle211_0, hSJ264⟩)
        ·
         rcases Bool.eq_false_or_eq_true (D264 12) with hb268 | hb268
         ·
          obtain ⟨FJ264, ur212_0, g213, he264_10, he264_12, leJ264, hSJ264⟩ := (hJ264 true false true hb265 hb266 hb268)
          refine W_move rfl rfl ?_
          refine W_nil ?_
          exact N_stepJ rfl (fun u hu => Option.some.inj hu) (fun b10 b11 b12 h10 h11 h12 => by obtain rfl : b10 = true := h10.symm.trans hb265; obtain rfl : b11 = false := h11.symm.trans hb266; obtain rfl : b12 = true := h12.symm.trans hb268; exact ⟨FJ264, ur212_0, g213, he264_10, he264_12, leJ264, hSJ264⟩)
         ·
          obtain ⟨FJ264, ur212_0, he264_10, leJ264, hSJ264⟩ := (hJ264 true false false hb265 hb266 hb268)
          refine W_move rfl rfl ?_
          refine W_nil ?_
          exact N_stepJ rfl (fun u hu => Option.some.inj hu) (fun b10 b11 b12 h10 h11 h12 => by obtain rfl : b10 = true := h10.symm.trans hb265; obtain rfl : b11 = false := h11.symm.trans hb266; obtain rfl : b12 = false := h12.symm.trans hb268; exact ⟨FJ264, ur212_0, he264_10, leJ264, hSJ264⟩)
       ·
        rcases Bool.eq_false_or_eq_true (D264 11) with hb269 | hb269
        ·
         rcases Bool.eq_false_or_eq_true (D264 12) with hb270 | hb270
         ·
          exact False.elim (hJ264 false true true hb265 hb269 hb270)
         ·
          exact False.elim (hJ264 false true false hb265 hb269 hb270)
        ·
         rcases Bool.eq_false_or_eq_true (D264 12) with hb271 | hb271
         ·
          obtain ⟨FJ264, g213, he264_12, leJ264, hSJ264⟩ := (hJ264 false false true hb265 hb269 hb271)
          refine W_move rfl rfl ?_
          refine W_nil ?_
          exact N_stepJ rfl (fun u hu => Option.some.inj hu) (fun b10 b11 b12 h10 h11 h12 => by obtain rfl : b10 = false := h10.symm.trans hb265; obtain rfl : b11 = false := h11.symm.trans hb269; obtain rfl : b12 = true := h12.symm.trans hb271; exact ⟨FJ264, g213, he264_12, leJ264, hSJ264⟩)
         ·
          obtain ⟨FJ264, leJ264, hSJ264⟩ := (hJ264 false false false hb265 hb269 hb271)
          refine W_move rfl rfl ?_
          refine W_nil ?_
          exact N_stepJ rfl (fun u hu => Option.some.inj hu) (fun b10 b11 b12 h10 h11 h12 => by obtain rfl : b10 = false := h10.symm.trans hb265; obtain rfl : b11 = false := h11.symm.trans hb269; obtain rfl : b12 = false := h12.symm.trans hb271; exact ⟨FJ264, leJ264, hSJ264⟩)
      ·
       intro w272 vq272 D272 hD272 hd272 hJ272
       rcases Bool.eq_false_or_eq_true (D272 10) with hb273 | hb273
       ·
        rcases Bool.eq_false_or_eq_true (D272 11) with hb274 | hb274
        ·
         rcases Bool.eq_false_or_eq_true (D272 12) with hb275 | hb275
         ·
          obtain ⟨FJ272, ur212_0, g213, he272_10, he272_11, he272_12, leJ272, hle211_0, hSJ272⟩ := (hJ272 true true true hb273 hb274 hb275)
          refine W_move rfl rfl ?_
          refine W_nil ?_
          exact N_stepJ rfl (fun u hu => Option.some.inj hu) (fun b10 b11 b12 h10 h11 h12 => by obtain rfl : b10 = true := h10.symm.trans hb273; obtain rfl : b11 = true := h11.symm.trans hb274; obtain rfl : b12 = true := h12.symm.trans hb275; exact ⟨FJ272, ur212_0, g213, he272_10, he272_11, he272_12, leJ272, hle211_0, hSJ272⟩)
         ·
          obtain ⟨FJ272, ur212_0, he272_10, he272_11, leJ272, hle211_0, hSJ272⟩ := (hJ272 true true false hb273 hb274 hb275)
          refine W_move rfl rfl ?_
          refine W_nil ?_
          exact N_stepJ rfl (fun u hu => Option.some.inj hu) (fun b10 b11 b12 h10 h11 h12 => by obtain rfl : b10 = true := h10.symm.trans hb273; obtain rfl : b11 = true := h11.symm.trans hb274; obtain rfl : b12 = false := h12.symm.trans hb275; exact ⟨FJ272, ur212_0, he272_10, he272_11, leJ272, hle211_0, hSJ272⟩)
        ·
         rcases Bool.eq_false_or_eq_true (D272 12) with hb276 | hb276
         ·
          obtain ⟨FJ272, ur212_0, g213, he272_10, he272_12, leJ272, hSJ272⟩ := (hJ272 true false true hb273 hb274 hb276)
          refine W_move rfl rfl ?_
          refine W_nil ?_
          exact N_stepJ rfl (fun u hu => Option.some.inj hu) (fun b10 b11 b12 h10 h11 h12 => by obtain rfl : b10 = true := h10.symm.trans hb273; obtain rfl : b11 = false := h11.symm.trans hb274; obtain rfl : b12 = true := h12.symm.trans hb276; exact ⟨FJ272, ur212_0, g213, he272_10, he272_12, leJ272, hSJ272⟩)
         ·
          obtain ⟨FJ272, ur212_0, he272_10, leJ272, hSJ272⟩ := (hJ272 true false false hb273 hb274 hb276)
          refine W_move rfl rfl ?_
          refine W_nil ?_
          exact N_stepJ rfl (fun u hu => Option.some.inj hu) (fun b10 b11 b12 h10 h11 h12 => by obtain rfl : b10 = true := h10.symm.trans hb273; obtain rfl : b11 = false := h11.symm.trans hb274; obtain rfl : b12 = false := h12.symm.trans hb276; exact ⟨FJ272, ur212_0, he272_10, leJ272, hSJ272⟩)
       ·
        rcases Bool.eq_false_or_eq_true (D272 11) with hb277 | hb277
        ·
         rcases Bool.eq_false_or_eq_true (D272 12) with hb278 | hb278
         ·
          exact False.elim (hJ272 false true true hb273 hb277 hb278)
         ·
          exact False.elim (hJ272 false true false hb273 hb277 hb278)
        ·
         rcases Bool.eq_false_or_eq_true (D272 12) with hb279 | hb279
         ·
          obtain ⟨FJ272, g213, he272_12, leJ272, hSJ272⟩ := (hJ272 false false true hb273 hb277 hb279)
          refine W_move rfl rfl ?_
          refine W_nil ?_
          exact N_stepJ rfl (fun u hu => Option.some.inj hu) (fun b10 b11 b12 h10 h11 h12 => by obtain rfl : b10 = false := h10.symm.trans hb273; obtain rfl : b11 = false := h11.symm.trans hb277; obtain rfl : b12 = true := h12.symm.trans hb279; exact ⟨FJ272, g213, he272_12, leJ272, hSJ272⟩)
         ·
          obtain ⟨FJ272, leJ272, hSJ272⟩ := (hJ272 false false false hb273 hb277 hb279)
          refine W_move rfl rfl ?_
          refine W_nil ?_
          exact N_stepJ rfl (fun u hu => Option.some.inj hu) (fun b10 b11 b12 h10 h11 h12 => by obtain rfl : b10 = false := h10.symm.trans hb273; obtain rfl : b11 = false := h11.symm.trans hb277; obtain rfl : b12 = false := h12.symm.trans hb279; exact ⟨FJ272, leJ272, hSJ272⟩)
      ·
       intro w280 vq280 D280 hD280 hd280 hJ280
       rcases Bool.eq_false_or_eq_true (D280 10) with hb281 | hb281
       ·
        rcases Bool.eq_false_or_eq_true (D280 11) with hb282 | hb282
        ·
         rcases Bool.eq_false_or_eq_true (D280 12) with hb283 | hb283
         ·
          obtain ⟨FJ280, ur212_0, g213, he280_10, he280_11, he280_12, leJ280, hle211_0, hSJ280⟩ := (hJ280 true true true hb281 hb282 hb283)
          refine W_ix rfl Go.Proofs.Try.underlying47 Ty.cells52 Ty.info52 rfl rfl (he214.el (hSJ280.agree.le leJ280)) hp214 rfl ?_
          refine W_nil ?_
          exact N_stepJ rfl (fun u hu => Option.some.inj hu) (fun b10 b11 b12 h10 h11 h12 => by obtain rfl : b10 = true := h10.symm.trans hb281; obtain rfl : b11 = true := h11.symm.trans hb282; obtain rfl : b12 = true := h12.symm.trans hb283; exact ⟨FJ280, ur212_0, g213, he280_10, he280_11, he280_12, leJ280, hle211_0, hSJ280⟩)
         ·
          obtain ⟨FJ280, ur212_0, he280_10, he280_11, leJ280, hle211_0, hSJ280⟩ := (hJ280 true true false hb281 hb282 hb283)
          refine W_ix rfl Go.Proofs.Try.underlying47 Ty.cells52 Ty.info52 rfl rfl (he214.el (hSJ280.agree.le leJ280)) hp214 rfl ?_
          refine W_nil ?_
          exact N_stepJ rfl (fun u hu => Option.some.inj hu) (fun b10 b11 b12 h10 h11 h12 => by obtain rfl : b10 = true := h10.symm.trans hb281; obtain rfl : b11 = true := h11.symm.trans hb282; obtain rfl : b12 = false := h12.symm.trans hb283; exact ⟨FJ280, ur212_0, he280_10, he280_11, leJ280, hle211_0, hSJ280⟩)
        ·
         rcases Bool.eq_false_or_eq_true (D280 12) with hb284 | hb284
         ·
          obtain ⟨FJ280, ur212_0, g213, he280_10, he280_12, leJ280, hSJ280⟩ := (hJ280 true false true hb281 hb282 hb284)
          refine W_ix rfl Go.Proofs.Try.underlying47 Ty.cells52 Ty.info52 rfl rfl (he214.el (hSJ280.agree.le leJ280)) hp214 rfl ?_
          refine W_nil ?_
          exact N_stepJ rfl (fun u hu => Option.some.inj hu) (fun b10 b11 b12 h10 h11 h12 => by obtain rfl : b10 = true := h10.symm.trans hb281; obtain rfl : b11 = false := h11.symm.trans hb282; obtain rfl : b12 = true := h12.symm.trans hb284; exact ⟨FJ280, ur212_0, g213, he280_10, he280_12, leJ280, hSJ280⟩)
         ·
          obtain ⟨FJ280, ur212_0, he280_10, leJ280, hSJ280⟩ := (hJ280 true false false hb281 hb282 hb284)
          refine W_ix rfl Go.Proofs.Try.underlying47 Ty.cells52 Ty.info52 rfl rfl (he214.el (hSJ280.agree.le leJ280)) hp214 rfl ?_
          refine W_nil ?_
          exact N_stepJ rfl (fun u hu => Option.some.inj hu) (fun b10 b11 b12 h10 h11 h12 => by obtain rfl : b10 = true := h10.symm.trans hb281; obtain rfl : b11 = false := h11.symm.trans hb282; obtain rfl : b12 = false := h12.symm.trans hb284; exact ⟨FJ280, ur212_0, he280_10, leJ280, hSJ280⟩)
       ·
        rcases Bool.eq_false_or_eq_true (D280 11) with hb285 | hb285
        ·
         rcases Bool.eq_false_or_eq_true (D280 12) with hb286 | hb286
         ·
          exact False.elim (hJ280 false true true hb281 hb285 hb286)
         ·
          exact False.elim (hJ280 false true false hb281 hb285 hb286)
        ·
         rcases Bool.eq_false_or_eq_true (D280 12) with hb287 | hb287
         ·
          obtain ⟨FJ280, g213, he280_12, leJ280, hSJ280⟩ := (hJ280 false false true hb281 hb285 hb287)
          refine W_ix rfl Go.Proofs.Try.underlying47 Ty.cells52 Ty.info52 rfl rfl (he214.el (hSJ280.agree.le leJ280)) hp214 rfl ?_
          refine W_nil ?_
          exact N_stepJ rfl (fun u hu => Option.some.inj hu) (fun b10 b11 b12 h10 h11 h12 => by obtain rfl : b10 = false := h10.symm.trans hb281; obtain rfl : b11 = false := h11.symm.trans hb285; obtain rfl : b12 = true := h12.symm.trans hb287; exact ⟨FJ280, g213, he280_12, leJ280, hSJ280⟩)
         ·
          obtain ⟨FJ280, leJ280, hSJ280⟩ := (hJ280 false false false hb281 hb285 hb287)
          refine W_ix rfl Go.Proofs.Try.underlying47 Ty.cells52 Ty.info52 rfl rfl (he214.el (hSJ280.agree.le leJ280)) hp214 rfl ?_
          refine W_nil ?_
          exact N_stepJ rfl (fun u hu => Option.some.inj hu) (fun b10 b11 b12 h10 h11 h12 => by obtain rfl : b10 = false := h10.symm.trans hb281; obtain rfl : b11 = false := h11.symm.trans hb285; obtain rfl : b12 = false := h12.symm.trans hb287; exact ⟨FJ280, leJ280, hSJ280⟩)
      ·
       intro w288 vq288 D288 hD288 hd288 hJ288
       rcases Bool.eq_false_or_eq_true (D288 10) with hb289 | hb289
       ·
        rcases Bool.eq_false_or_eq_true (D288 11) with hb290 | hb290
        ·
         rcases Bool.eq_false_or_eq_true (D288 12) with hb291 | hb291
         ·
          obtain ⟨FJ288, ur212_0, g213, he288_10, he288_11, he288_12, leJ288, hle211_0, hSJ288⟩ := (hJ288 true true true hb289 hb290 hb291)
          refine W_fld 32 rfl Ty.field52_1 rfl (he214.el (hSJ288.agree.le leJ288)) ?_
          refine W_nil ?_
          exact N_stepJ rfl (fun u hu => Option.some.inj hu) (fun b10 b11 b12 h10 h11 h12 => by obtain rfl : b10 = true := h10.symm.trans hb289; obtain rfl : b11 = true := h11.symm.trans hb290; obtain rfl : b12 = true := h12.symm.trans hb291; exact ⟨FJ288, ur212_0, g213, he288_10, he288_11, he288_12, leJ288, hle211_0, hSJ288⟩)
         ·
          obtain ⟨FJ288, ur212_0, he288_10, he288_11, leJ288, hle211_0, hSJ288⟩ := (hJ288 true true false hb289 hb290 hb291)
          refine W_fld 32 rfl Ty.field52_1 rfl (he214.el (hSJ288.agree.le leJ288)) ?_
          refine W_nil ?_
          exact N_stepJ rfl (fun u hu => Option.some.inj hu) (fun b10 b11 b12 h10 h11 h12 => by obtain rfl : b10 = true := h10.symm.trans hb289; obtain rfl : b11 = true := h11.symm.trans hb290; obtain rfl : b12 = false := h12.symm.trans hb291; exact ⟨FJ288, ur212_0, he288_10, he288_11, leJ288, hle211_0, hSJ288⟩)
        ·
         rcases Bool.eq_false_or_eq_true (D288 12) with hb292 | hb292
         ·
          obtain ⟨FJ288, ur212_0, g213, he288_10, he288_12, leJ288, hSJ288⟩ := (hJ288 true false true hb289 hb290 hb292)
          refine W_fld 32 rfl Ty.field52_1 rfl (he214.el (hSJ288.agree.le leJ288)) ?_
          refine W_nil ?_
          exact N_stepJ rfl (fun u hu => Option.some.inj hu) (fun b10 b11 b12 h10 h11 h12 => by obtain rfl : b10 = true := h10.symm.trans hb289; obtain rfl : b11 = false := h11.symm.trans hb290; obtain rfl : b12 = true := h12.symm.trans hb292; exact ⟨FJ288, ur212_0, g213, he288_10, he288_12, leJ288, hSJ288⟩)
         ·
          obtain ⟨FJ288, ur212_0, he288_10, leJ288, hSJ288⟩ := (hJ288 true false false hb289 hb290 hb292)
          refine W_fld 32 rfl Ty.field52_1 rfl (he214.el (hSJ288.agree.le leJ288)) ?_
          refine W_nil ?_
          exact N_stepJ rfl (fun u hu => Option.some.inj hu) (fun b10 b11 b12 h10 h11 h12 => by obtain rfl : b10 = true := h10.symm.trans hb289; obtain rfl : b11 = false := h11.symm.trans hb290; obtain rfl : b12 = false := h12.symm.trans hb292; exact ⟨FJ288, ur212_0, he288_10, leJ288, hSJ288⟩)
       ·
        rcases Bool.eq_false_or_eq_true (D288 11) with hb293 | hb293
        ·
         rcases Bool.eq_false_or_eq_true (D288 12) with hb294 | hb294
         ·
          exact False.elim (hJ288 false true true hb289 hb293 hb294)
         ·
          exact False.elim (hJ288 false true false hb289 hb293 hb294)
        ·
         rcases Bool.eq_false_or_eq_true (D288 12) with hb295 | hb295
         ·
          obtain ⟨FJ288, g213, he288_12, leJ288, hSJ288⟩ := (hJ288 false false true hb289 hb293 hb295)
          refine W_fld 32 rfl Ty.field52_1 rfl (he214.el (hSJ288.agree.le leJ288)) ?_
          refine W_nil ?_
          exact N_stepJ rfl (fun u hu => Option.some.inj hu) (fun b10 b11 b12 h10 h11 h12 => by obtain rfl : b10 = false := h10.symm.trans hb289; obtain rfl : b11 = false := h11.symm.trans hb293; obtain rfl : b12 = true := h12.symm.trans hb295; exact ⟨FJ288, g213, he288_12, leJ288, hSJ288⟩)
         ·
          obtain ⟨FJ288, leJ288, hSJ288⟩ := (hJ288 false false false hb289 hb293 hb295)
          refine W_fld 32 rfl Ty.field52_1 rfl (he214.el (hSJ288.agree.le leJ288)) ?_
          refine W_nil ?_
          exact N_stepJ rfl (fun u hu => Option.some.inj hu) (fun b10 b11 b12 h10 h11 h12 => by obtain rfl : b10 = false := h10.symm.trans hb289; obtain rfl : b11 = false := h11.symm.trans hb293; obtain rfl : b12 = false := h12.symm.trans hb295; exact ⟨FJ288, leJ288, hSJ288⟩)
      ·
       intro w296 vq296 D296 hD296 hd296 hJ296
       rcases Bool.eq_false_or_eq_true (D296 10) with hb297 | hb297
       ·
        rcases Bool.eq_false_or_eq_true (D296 11) with hb298 | hb298
        ·
         rcases Bool.eq_false_or_eq_true (D296 12) with hb299 | hb299
         ·
          obtain ⟨FJ296, ur212_0, g213, he296_10, he296_11, he296_12, leJ296, hle211_0, hSJ296⟩ := (hJ296 true true true hb297 hb298 hb299)
          refine W_ld1 32 rfl Ty.cell49 rfl (he214.el (hSJ296.agree.le leJ296)) (by omega) rfl ?_
          refine W_nil ?_
          exact N_stepJ rfl (fun u hu => Option.some.inj hu) (fun b10 b11 b12 h10 h11 h12 => by obtain rfl : b10 = true := h10.symm.trans hb297; obtain rfl : b11 = true := h11.symm.trans hb298; obtain rfl : b12 = true := h12.symm.trans hb299; exact ⟨FJ296, ur212_0, g213, he296_10, he296_11, he296_12, leJ296, hle211_0, hSJ296⟩)
         ·
          obtain ⟨FJ296, ur212_0, he296_10, he296_11, leJ296, hle211_0, hSJ296⟩ := (hJ296 true true false hb297 hb298 hb299)
          refine W_ld1 32 rfl Ty.cell49 rfl (he214.el (hSJ296.agree.le leJ296)) (by omega) rfl ?_
          refine W_nil ?_
          exact N_stepJ rfl (fun u hu => Option.some.inj hu) (fun b10 b11 b12 h10 h11 h12 => by obtain rfl : b10 = true := h10.symm.trans hb297; obtain rfl : b11 = true := h11.symm.trans hb298; obtain rfl : b12 = false := h12.symm.trans hb299; exact ⟨FJ296, ur212_0, he296_10, he296_11, leJ296, hle211_0, hSJ296⟩)
        ·
         rcases Bool.eq_false_or_eq_true (D296 12) with hb300 | hb300
         ·
          obtain ⟨FJ296, ur212_0, g213, he296_10, he296_12, leJ296, hSJ296⟩ := (hJ296 true false true hb297 hb298 hb300)
          refine W_ld1 32 rfl Ty.cell49 rfl (he214.el (hSJ296.agree.le leJ296)) (by omega) rfl ?_
          refine W_nil ?_
          exact N_stepJ rfl (fun u hu => Option.some.inj hu) (fun b10 b11 b12 h10 h11 h12 => by obtain rfl : b10 = true := h10.symm.trans hb297; obtain rfl : b11 = false := h11.symm.trans hb298; obtain rfl : b12 = true := h12.symm.trans hb300; exact ⟨FJ296, ur212_0, g213, he296_10, he296_12, leJ296, hSJ296⟩)
         ·
          obtain ⟨FJ296, ur212_0, he296_10, leJ296, hSJ296⟩ := (hJ296 true false false hb297 hb298 hb300)
          refine W_ld1 32 rfl Ty.cell49 rfl (he214.el (hSJ296.agree.le leJ296)) (by omega) rfl ?_
          refine W_nil ?_
          exact N_stepJ rfl (fun u hu => Option.some.inj hu) (fun b10 b11 b12 h10 h11 h12 => by obtain rfl : b10 = true := h10.symm.trans hb297; obtain rfl : b11 = false := h11.symm.trans hb298; obtain rfl : b12 = false := h12.symm.trans hb300; exact ⟨FJ296, ur212_0, he296_10, leJ296, hSJ296⟩)
       ·
        rcases Bool.eq_false_or_eq_true (D296 11) with hb301 | hb301
        ·
         rcases Bool.eq_false_or_eq_true (D296 12) with hb302 | hb302
         ·
          exact False.elim (hJ296 false true true hb297 hb301 hb302)
         ·
          exact False.elim (hJ296 false true false hb297 hb301 hb302)
        ·
         rcases Bool.eq_false_or_eq_true (D296 12) with hb303 | hb303
         ·
          obtain ⟨FJ296, g213, he296_12, leJ296, hSJ296⟩ := (hJ296 false false true hb297 hb301 hb303)
          refine W_ld1 32 rfl Ty.cell49 rfl (he214.el (hSJ296.agree.le leJ296)) (by omega) rfl ?_
          refine W_nil ?_
          exact N_stepJ rfl (fun u hu => Option.some.inj hu) (fun b10 b11 b12 h10 h11 h12 => by obtain rfl : b10 = false := h10.symm.trans hb297; obtain rfl : b11 = false := h11.symm.trans hb301; obtain rfl : b12 = true := h12.symm.trans hb303; exact ⟨FJ296, g213, he296_12, leJ296, hSJ296⟩)
         ·
          obtain ⟨FJ296, leJ296, hSJ296⟩ := (hJ296 false false false hb297 hb301 hb303)
          refine W_ld1 32 rfl Ty.cell49 rfl (he214.el (hSJ296.agree.le leJ296)) (by omega) rfl ?_
          refine W_nil ?_
          exact N_stepJ rfl (fun u hu => Option.some.inj hu) (fun b10 b11 b12 h10 h11 h12 => by obtain rfl : b10 = false := h10.symm.trans hb297; obtain rfl : b11 = false := h11.symm.trans hb301; obtain rfl : b12 = false := h12.symm.trans hb303; exact ⟨FJ296, leJ296, hSJ296⟩)
      ·
       intro w304 vq304 D304 hD304 hd304 hJ304
       rcases Bool.eq_false_or_eq_true (D304 11) with hb305 | hb305
       ·
        rcases Bool.eq_false_or_eq_true (D304 12) with hb306 | hb306
        ·
         exact False.elim (hJ304 false true true hD304 hb305 hb306)
        ·
         exact False.elim (hJ304 false true false hD304 hb305 hb306)
       ·
        rcases Bool.eq_false_or_eq_true (D304 12) with hb307 | hb307
        ·
         obtain ⟨FJ304, g213, he304_12, leJ304, hSJ304⟩ := (hJ304 false false true hD304 hb305 hb307)
         refine W_call rfl Ty.named29 rfl (plan_Sort_ok hSJ304.agree (hue211_0.mono leJ304) hr212) ?_
         rintro ur212_0 w308 ⟨Fr212, _, rfl, hT308⟩
         have hS308 := hSJ304.call hT308
         have ler212 := hT308.ext
         refine W_nil ?_
         exact N_stepJ rfl (fun u (hu : (none : Option Value) = some u) => by cases hu) (fun b10 b11 b12 h10 h11 h12 => by obtain rfl : b10 = true := h10.symm; obtain rfl : b11 = false := h11.symm.trans hb305; obtain rfl : b12 = true := h12.symm.trans hb307; exact ⟨Fr212, ur212_0, g213, rfl, he304_12, (leJ304.trans ler212), hS308.pick [1, 0, 2] (by decide)⟩)
        ·
         obtain ⟨FJ304, leJ304, hSJ304⟩ := (hJ304 false false false hD304 hb305 hb307)
         refine W_call rfl Ty.named29 rfl (plan_Sort_ok hSJ304.agree (hue211_0.mono leJ304) hr212) ?_
         rintro ur212_0 w309 ⟨Fr212, _, rfl, hT309⟩
         have hS309 := hSJ304.call hT309
         have ler212 := hT309.ext
         refine W_nil ?_
         exact N_stepJ rfl (fun u (hu : (none : Option Value) = some u) => by cases hu) (fun b10 b11 b12 h10 h11 h12 => by obtain rfl : b10 = true := h10.symm; obtain rfl : b11 = false := h11.symm.trans hb305; obtain rfl : b12 = false := h12.symm.trans hb307; exact ⟨Fr212, ur212_0, rfl, (leJ304.trans ler212), hS309⟩)
      ·
       intro w310 vq310 D310 hD310 hd310 hJ310
       rcases Bool.eq_false_or_eq_true (D310 12) with hb311 | hb311
       ·
        obtain ⟨FJ310, ur212_0, g213, he310_10, he310_12, leJ310, hSJ310⟩ := (hJ310 true false true (hd310 10 (by decide)) hD310 hb311)
        refine W_eqv (t := 32) rfl he310_10 ?_
        obtain ⟨ao312, m312, c312, hu312⟩ := (hSJ310.rowLn (k := 1) rfl).form
        refine W_build (v := .agg (Want.cells (Want.mk x210.id r212) ur212_0).toArray) rfl rfl (fun _ => by rw [hu312]; kernel_rfl) ?_
        refine W_nil ?_
        exact N_stepJ rfl (fun u (hu : (none : Option Value) = some u) => by cases hu) (fun b10 b11 b12 h10 h11 h12 => by obtain rfl : b10 = true := h10.symm.trans (hd310 10 (by decide)); obtain rfl : b11 = true := h11.symm; obtain rfl : b12 = true := h12.symm.trans hb311; exact ⟨FJ310, ur212_0, g213, he310_10, rfl, he310_12, leJ310, hle211_0, hSJ310⟩)
       ·
        obtain ⟨FJ310, ur212_0, he310_10, leJ310, hSJ310⟩ := (hJ310 true false false (hd310 10 (by decide)) hD310 hb311)
        refine W_eqv (t := 32) rfl he310_10 ?_
        obtain ⟨ao313, m313, c313, hu313⟩ := (hSJ310.rowLn (k := 0) rfl).form
        refine W_build (v := .agg (Want.cells (Want.mk x210.id r212) ur212_0).toArray) rfl rfl (fun _ => by rw [hu313]; kernel_rfl) ?_
        refine W_nil ?_
        exact N_stepJ rfl (fun u (hu : (none : Option Value) = some u) => by cases hu) (fun b10 b11 b12 h10 h11 h12 => by obtain rfl : b10 = true := h10.symm.trans (hd310 10 (by decide)); obtain rfl : b11 = true := h11.symm; obtain rfl : b12 = false := h12.symm.trans hb311; exact ⟨FJ310, ur212_0, he310_10, rfl, leJ310, hle211_0, hSJ310⟩)
      ·
       intro w314 vq314 D314 hD314 hd314 hJ314
       rcases Bool.eq_false_or_eq_true (D314 10) with hb315 | hb315
       ·
        rcases Bool.eq_false_or_eq_true (D314 11) with hb316 | hb316
        ·
         obtain ⟨FJ314, ur212_0, he314_10, he314_11, leJ314, hle211_0, hSJ314⟩ := (hJ314 true true false hb315 hb316 hD314)
         refine W_alc (cs := idCells (List.replicate 32 (0 : UInt8)) ++ [.slice none 0 0]) rfl Ty.zero52 rfl hSJ314 ?_
         intro g213 w213 hS213
         refine W_nil ?_
         exact N_stepJ rfl (fun u (hu : (none : Option Value) = some u) => by cases hu) (fun b10 b11 b12 h10 h11 h12 => by obtain rfl : b10 = true := h10.symm.trans hb315; obtain rfl : b11 = true := h11.symm.trans hb316; obtain rfl : b12 = true := h12.symm; exact ⟨FJ314, ur212_0, g213, he314_10, he314_11, rfl, leJ314, hle211_0, hS213⟩)
        ·
         obtain ⟨FJ314, ur212_0, he314_10, leJ314, hSJ314⟩ := (hJ314 true false false hb315 hb316 hD314)
         refine W_alc (cs := idCells (List.replicate 32 (0 : UInt8)) ++ [.slice none 0 0]) rfl Ty.zero52 rfl hSJ314 ?_
         intro g213 w213 hS213
         refine W_nil ?_
         exact N_stepJ rfl (fun u (hu : (none : Option Value) = some u) => by cases hu) (fun b10 b11 b12 h10 h11 h12 => by obtain rfl : b10 = true := h10.symm.trans hb315; obtain rfl : b11 = false := h11.symm.trans hb316; obtain rfl : b12 = true := h12.symm; exact ⟨FJ314, ur212_0, g213, he314_10, rfl, leJ314, hS213⟩)
       ·
        rcases Bool.eq_false_or_eq_true (D314 11) with hb317 | hb317
        ·
         exact False.elim (hJ314 false true false hb315 hb317 hD314)
        ·
         obtain ⟨FJ314, leJ314, hSJ314⟩ := (hJ314 false false false hb315 hb317 hD314)
         refine W_alc (cs := idCells (List.replicate 32 (0 : UInt8)) ++ [.slice none 0 0]) rfl Ty.zero52 rfl hSJ314 ?_
         intro g213 w213 hS213
         refine W_nil ?_
         exact N_stepJ rfl (fun u (hu : (none : Option Value) = some u) => by cases hu) (fun b10 b11 b12 h10 h11 h12 => by obtain rfl : b10 = false := h10.symm.trans hb315; obtain rfl : b11 = false := h11.symm.trans hb317; obtain rfl : b12 = true := h12.symm; exact ⟨FJ314, g213, rfl, leJ314, hS213⟩)
     intro w318 vq318 D318 hA318 hJ318
     obtain ⟨FJ318, ur212_0, g213, he318_10, he318_11, he318_12, leJ318, hle211_0, hSJ318⟩ := (hJ318 true true true (hA318 10 (by decide)) (hA318 11 (by decide)) (hA318 12 (by decide)))
     refine W_eqv (t := 32) rfl he318_10 ?_
     refine W_eqv (t := 33) rfl he318_11 ?_
     refine W_eqv (t := 6) rfl he318_12 ?_
     refine W_bst (c := idCells x210.id ++ [ur212_0]) 0 (idCells x210.id ++ [ur212_0]) rfl rfl hSJ318 rfl rfl (by rw [Ty.size52]; simp [idCells_len]) (by intro y hy; simp only [List.mem_append, List.mem_cons, List.not_mem_nil, or_false, or_assoc] at hy; rcases hy with hy | hy <;> first | exact idCells_one hy | (subst hy; exact (hSJ318.rowLn (k := 1) rfl).one)) (by simp [idCells_len]) (by simp [idCells_len, List.take_append, List.drop_append, List.take_of_length_le, List.drop_eq_nil_of_le]) ?_
     intro w319 hS319
     refine W_nil ?_
     refine N_code ?_
     refine C_seq ?_
     refine C_region ?_
     refine W_move rfl rfl ?_
     refine W_field_pl 32 rfl Ty.field52_1 rfl ?_
     refine W_bld1 0 rfl Ty.cell49 rfl hS319 rfl rfl ?_
     refine W_lenv rfl Go.Proofs.Try.underlying49 rfl (hS319.rowLn (k := 1) rfl) ?_
     refine W_max rfl rfl rfl ?_
     refine W_assign rfl rfl ?_
     refine W_nil ?_
     refine N_code ?_
     obtain ⟨l321, hl321, H⟩ := bd_some H
     refine C_region ?_
     refine W_move rfl rfl ?_
     refine W_bldg 0 ((Want.cells (Want.mk x210.id r212) ur212_0)) rfl Ty.agg52 Ty.size52 rfl hS319 rfl (fun q u h => sub_at (post := []) rfl h) ?_
     obtain ⟨F323, le323, hf323, hS323⟩ := hS319.freeze 1 [0, 2] rfl (by decide) (by decide)
     refine W_bs (t := Want.t) [(Want.cells (Want.mk x210.id r212) ur212_0)] [(Want.mk x210.id r212)] rfl Go.Proofs.Try.underlying47 Ty.cells52 rfl rfl Ty.zero52 rfl rfl ⟨⟨ur212_0, rfl, hle211_0, hf323⟩, trivial⟩ rfl rfl hS323 ?_
     intro u320 w320 hS320
     refine W_appM 2 rfl Go.Proofs.Try.underlying47 Ty.row52 rfl rfl rfl rfl rfl hS320 rfl (hS320.rowSrc (j := 0) rfl) hl321 ?_
     intro v322 w322 hS322
     refine W_assign rfl rfl ?_
     refine W_nil ?_
     refine N_block ?_
     refine N_code ?_
     refine C_region ?_
     refine W_move rfl rfl ?_
     refine W_add rfl rfl rfl rfl ?_
     refine W_assign rfl rfl ?_
     refine W_nil ?_
     exact N_againM ((if i203 < (r212.length : Int) then (r212.length : Int) else i203), l321, wr (i207 + 1)) _ H ⟨F323, v322, rfl, ((le202.trans leJ318).trans le323), hS322.pick [2] (by decide)⟩ ⟨rfl, rfl, rfl, rfl, trivial⟩
    ·
     rw [if_f hc209] at H
     refine C_exit _ rfl ?_
     exact N_join _ ⟨i203, l204, H, ⟨F202, u205, rfl, le202, hS202⟩⟩ ⟨rfl, rfl, rfl, trivial⟩
  ·
   rintro E w4 ⟨i5, l6, H, F4, u7, rfl, le4, hS4⟩
   dsimp only [cellarerlaw21_PlanWithout.k1] at H
   refine C_seq_join (fun E wq => ∃ l10 : List Want, cellarerlaw21_PlanWithout.k2 x0 l10 = some r ∧ ∃ (F9 : Frz), E = [(0, v0), (4, u7)] ∧ F4.le F9 ∧ St [] w F F9 [.row Want.t 52 u7 l10] wq) ?_ ?_
   ·
    refine C_seq ?_
    refine C_region ?_
    refine W_assign rfl rfl ?_
    refine W_nil ?_
    refine N_code ?_
    refine C_block ?_
    refine C_loopM (fun (s : Int × (List Want)) E wq => ∃ (F19 : Frz), E = [(0, v0), (3, .int .i64 i5), (4, u7), (7, .int .i64 s.1)] ∧ F4.le F19 ∧ St [] w F F19 [.row Want.t 52 u7 s.2] wq) H ?_ ?_
    ·
     exact ⟨_, ⟨F4, rfl, (Frz.le.refl _), hS4⟩, ⟨rfl, rfl, rfl, rfl, trivial⟩⟩
    ·
     rintro rec22 ⟨i20, l21⟩ E w19 hI H
     try dsimp only at hI
     obtain ⟨F19, rfl, le19, hS19⟩ := hI
     dsimp only [cellarerlaw21_PlanWithout.l3] at H
     refine C_seq ?_
     refine C_seq ?_
     refine C_region ?_
     refine W_move rfl rfl ?_
     refine W_move rfl rfl ?_
     refine W_lss rfl rfl rfl ?_
     refine W_nil ?_
     refine N_code ?_
     refine C_cond rfl (fun hc23 => ?_) (fun hc23 => ?_)
     ·
      rw [if_t hc23] at H
      refine C_skip ?_
      refine N_code ?_
      refine C_seq_join (fun E wq => ∃ l25 : List Want, cellarerlaw21_PlanWithout.k4 i20 rec22 l25 = some r ∧ ∃ (F24 : Frz), E = [(0, v0), (3, .int .i64 i5), (4, u7), (7, .int .i64 i20)] ∧ F19.le F24 ∧ St [] w F F24 [.row Want.t 52 u7 l25] wq) ?_ ?_
      ·
       refine C_block ?_
       refine C_seq ?_
       obtain ⟨r26, hr26, H⟩ := bd_some H
       refine C_region ?_
       refine W_move rfl rfl ?_
       refine W_call rfl Ty.named27 rfl (plan_Order_ok (now_agree _) (hS19.rowNow (k := 0) rfl) hr26) ?_
       rintro v27 w27 ⟨Fr26, ur26_0, ur26_1, rfl, hT27⟩
       have hS27 := hS19.lentFlat hT27 ⟨fun h => h, ⟨fun h => h, trivial⟩⟩
       refine W_move rfl rfl ?_
       refine W_extract rfl rfl rfl ?_
       refine W_extract rfl rfl rfl ?_
       refine W_assign rfl rfl ?_
       refine W_assign rfl rfl ?_
       refine W_nil ?_
       refine N_code ?_
       refine C_seq ?_
       refine C_seq ?_
       refine C_region ?_
       refine W_move rfl rfl ?_
       refine W_lenv rfl Go.Proofs.Try.underlying23 rfl (hS27.rowLn (k := 0) rfl) ?_
       refine W_eql rfl rfl rfl ?_
       refine W_nil ?_
       refine N_code ?_
       refine C_cond rfl (fun hc28 => ?_) (fun hc28 => ?_)
       ·
        rw [if_t hc28] at H
        refine C_seq ?_
        refine C_region ?_
        refine W_assign rfl rfl ?_
        refine W_nil ?_
        refine N_code ?_
        obtain rfl := Option.some.inj H
        refine C_ret rfl rfl ?_
        exact ⟨F19, rfl, hS27.pick [] (by decide)⟩
       ·
        rw [if_f hc28] at H
        refine C_skip ?_
        refine N_code ?_
        refine C_seq ?_
        refine C_region ?_
        refine W_assign rfl rfl ?_
        refine W_nil ?_
        refine N_code ?_
        refine C_block ?_
        refine C_loopM (fun (s : Int × (List Want)) E wq => ∃ (F29 : Frz), E = [(0, v0), (3, .int .i64 i5), (4, u7), (7, .int .i64 i20), (8, ur26_0), (10, .int .i64 s.1)] ∧ F19.le F29 ∧ St [] w F F29 [.row Read.t 39 ur26_0 r26.1, .row Want.t 52 u7 s.2] wq) H ?_ ?_
        ·
         exact ⟨_, ⟨F19, rfl, (Frz.le.refl _), hS27.pick [0, 2] (by decide)⟩, ⟨rfl, rfl, rfl, rfl, rfl, rfl, trivial⟩⟩
        ·
         rintro rec32 ⟨i30, l31⟩ E w29 hI H
         try dsimp only at hI
         obtain ⟨F29, rfl, le29, hS29⟩ := hI
         dsimp only [cellarerlaw21_PlanWithout.l5] at H
         refine C_seq ?_
         refine C_seq ?_
         refine C_region ?_
         refine W_move rfl rfl ?_
         refine W_move rfl rfl ?_
         refine W_lenv rfl Go.Proofs.Try.underlying23 rfl (hS29.rowLn (k := 0) rfl) ?_
         refine W_lss rfl rfl rfl ?_
         refine W_nil ?_
         refine N_code ?_
         refine C_cond rfl (fun hc33 => ?_) (fun hc33 => ?_)
         ·
          rw [if_t hc33] at H
          refine C_skip ?_
          refine N_code ?_
          refine C_seq ?_
          refine C_block ?_
          refine C_seq ?_
          obtain ⟨x34, hx34, H⟩ := bd_some H
          refine C_region ?_
          refine W_move rfl rfl ?_
          refine W_move rfl rfl ?_
          obtain ⟨hp36, hy36⟩ := ix_some hx34
          obtain ⟨cs36, hr36, he36⟩ := hS29.rowAt (k := 0) rfl hy36
          obtain rfl := hr36
          replace he36 : El _ _ 5 _ _ := he36
          refine W_ix rfl Go.Proofs.Try.underlying23 Ty.cells39 Ty.info39 rfl rfl he36 hp36 rfl ?_
          refine W_fld 0 rfl Ty.field39_0 rfl he36 ?_
          refine W_ld1 0 rfl Ty.cell3 rfl he36 (by omega) rfl ?_
          refine W_assign rfl rfl ?_
          refine W_nil ?_
          refine N_code ?_
          refine C_seq ?_
          refine C_seq ?_
          obtain ⟨x37, hx37, H⟩ := bd_some H
          obtain ⟨x39, hx39, H⟩ := bd_some H
          obtain ⟨x41, hx41, H⟩ := bd_some H
          obtain ⟨x43, hx43, H⟩ := bd_some H
          obtain ⟨r45, hr45, H⟩ := bd_some H
          refine C_join (fun E wq => E = [(0, v0), (3, .int .i64 i5), (4, u7), (7, .int .i64 i20), (8, ur26_0), (10, .int .i64 i30), (11, .int .i64 x34.want), (99, .bool (((decide (x34.want < 0) || decide ((l31.length : Int) ≤ x34.want)) || decide ((x37.locs.length : Int) = 0)) || (!r45)))] ∧ ∃ F46 : Frz, F29.le F46 ∧ St [] w F F46 [.row Read.t 39 ur26_0 r26.1, .row Want.t 52 u7 l31] wq) ?_ ?_
          ·
           rcases Bool.eq_false_or_eq_true (decide (x34.want < 0)) with hb47 | hb47
           ·
            apply C_draw 32 [[], [0], [1], [2], [2], [4, 2], [3, 5, 2], [2, 6], [7], [8], [8], [9, 10, 8], [11, 8], [12, 8], [13, 8], [14, 8], [8, 15], [16], [17], [17], [18, 19, 17], [20, 17], [21, 17], [22, 17], [23, 17], [17], [17], [25, 26, 17], [27, 17], [28, 17], [24, 29, 17], [30, 17]] [.val (.int .i64 x34.want), .val (.bool (decide (x34.want < 0))), .val (.bool true), .val undef, .val undef, .val undef, .val undef, .val (.bool true), .val (.bool true), .val undef, .val undef, .val undef, .val undef, .val undef, .val undef, .val undef, .val (.bool true), .val (.bool true), .val undef, .val undef, .val undef, .val undef, .val undef, .val undef, .val undef, .val undef, .val undef, .val undef, .val undef, .val undef, .val undef, .val undef] Ty.mixed rfl rfl (by kernel_rfl) (by kernel_rfl) rfl
            ·
             refine ⟨?_, ?_, ?_, ?_, ?_, ?_, ?_, ?_, ?_, ?_, ?_, ?_, ?_, ?_, ?_, ?_, ?_, ?_, ?_, ?_, ?_, ?_, ?_, ?_, ?_, ?_, ?_, ?_, ?_, ?_, ?_, ?_, trivial⟩
             ·
              intro w48 vq48 hB48 hH48
              have hS48 := hS29.below hB48
              refine W_move rfl rfl ?_
              refine W_nil ?_
              exact N_step rfl rfl (Below.refl _ _)
             ·
              intro w49 vq49 hB49 hH49
              have hS49 := hS29.below hB49
              refine W_lss rfl rfl rfl ?_
              refine W_nil ?_
              exact N_step rfl rfl (Below.refl _ _)
             ·
              intro w50 vq50 hB50 hH50
              have hS50 := hS29.below hB50
              refine W_move rfl rfl ?_
              refine W_nil ?_
              exact N_step rfl (congrArg Value.bool hb47) (Below.refl _ _)
             ·
              intro w51 vq51 hB51 hH51
              have hS51 := hS29.below hB51
              refine W_guard_no rfl rfl rfl rfl rfl ?_
              refine W_nil ?_
              exact N_step rfl rfl (Below.refl _ _)
             ·
              intro w52 vq52 hB52 hH52
              have hS52 := hS29.below hB52
              refine W_guard_no rfl rfl rfl rfl rfl ?_
              refine W_nil ?_
              exact N_step rfl rfl (Below.refl _ _)
             ·
              intro w53 vq53 hB53 hH53
              have hS53 := hS29.below hB53
              refine W_guard_no rfl rfl rfl rfl rfl ?_
              refine W_nil ?_
              exact N_step rfl rfl (Below.refl _ _)
             ·
              intro w54 vq54 hB54 hH54
              have hS54 := hS29.below hB54
              refine W_guard_no rfl rfl rfl rfl rfl ?_
              refine W_nil ?_
              exact N_step rfl rfl (Below.refl _ _)
             ·
              intro w55 vq55 hB55 hH55
              have hS55 := hS29.below hB55
              refine W_pick_t rfl rfl rfl ?_
              refine W_nil ?_
              exact N_step rfl rfl (Below.refl _ _)
             ·
              intro w56 vq56 hB56 hH56
              have hS56 := hS29.below hB56
              refine W_move rfl rfl ?_
              refine W_nil ?_
              exact N_step rfl rfl (Below.refl _ _)
             ·
              intro w57 vq57 hB57 hH57
              have hS57 := hS29.below hB57
              refine W_guard_no rfl rfl rfl rfl rfl ?_
              refine W_nil ?_
              exact N_step rfl rfl (Below.refl _ _)
             ·
              intro w58 vq58 hB58 hH58
              have hS58 := hS29.below hB58
              refine W_guard_no rfl rfl rfl rfl rfl ?_
              refine W_nil ?_
              exact N_step rfl rfl (Below.refl _ _)
             ·
              intro w59 vq59 hB59 hH59
              have hS59 := hS29.below hB59
              refine W_guard_no rfl rfl rfl rfl rfl ?_
              refine W_nil ?_
              exact N_step rfl rfl (Below.refl _ _)
             ·
              intro w60 vq60 hB60 hH60
              have hS60 := hS29.below hB60
              refine W_guard_no rfl rfl rfl rfl rfl ?_
              refine W_nil ?_
              exact N_step rfl rfl (Below.refl _ _)
             ·
              intro w61 vq61 hB61 hH61
              have hS61 := hS29.below hB61
              refine W_guard_no rfl rfl rfl rfl rfl ?_
              refine W_nil ?_
              exact N_step rfl rfl (Below.refl _ _)
             ·
              intro w62 vq62 hB62 hH62
              have hS62 := hS29.below hB62
              refine W_guard_no rfl rfl rfl rfl rfl ?_
              refine W_nil ?_
              exact N_step rfl rfl (Below.refl _ _)
             ·
              intro w63 vq63 hB63 hH63
              have hS63 := hS29.below hB63
              refine W_guard_no rfl rfl rfl rfl rfl ?_
              refine W_nil ?_
              exact N_step rfl rfl (Below.refl _ _)
             ·
              intro w64 vq64 hB64 hH64
              have hS64 := hS29.below hB64
              refine W_pick_t rfl rfl rfl ?_
              refine W_nil ?_
              exact N_step rfl rfl (Below.refl _ _)
             ·
              intro w65 vq65 hB65 hH65
              have hS65 := hS29.below hB65
              refine W_move rfl rfl ?_
              refine W_nil ?_
              exact N_step rfl rfl (Below.refl _ _)
             ·
              intro w66 vq66 hB66 hH66
              have hS66 := hS29.below hB66
              refine W_guard_no rfl rfl rfl rfl rfl ?_
              refine W_nil ?_
              exact N_step rfl rfl (Below.refl _ _)
             ·
              intro w67 vq67 hB67 hH67
              have hS67 := hS29.below hB67
              refine W_guard_no rfl rfl rfl rfl rfl ?_
              refine W_nil ?_
              exact N_step rfl rfl (Below.refl _ _)
             ·
              intro w68 vq68 hB68 hH68
              have hS68 := hS29.below hB68
              refine W_guard_no rfl rfl rfl rfl rfl ?_
              refine W_nil ?_
              exact N_step rfl rfl (Below.refl _ _)
             ·
              intro w69 vq69 hB69 hH69
              have hS69 := hS29.below hB69
              refine W_guard_no rfl rfl rfl rfl rfl ?_
              refine W_nil ?_
              exact N_step rfl rfl (Below.refl _ _)
             ·
              intro w70 vq70 hB70 hH70
              have hS70 := hS29.below hB70
              refine W_guard_no rfl rfl rfl rfl rfl ?_
              refine W_nil ?_
              exact N_step rfl rfl (Below.refl _ _)
             ·
              intro w71 vq71 hB71 hH71
              have hS71 := hS29.below hB71
              refine W_guard_no rfl rfl rfl rfl rfl ?_
              refine W_nil ?_
              exact N_step rfl rfl (Below.refl _ _)
             ·
              intro w72 vq72 hB72 hH72
              have hS72 := hS29.below hB72
              refine W_guard_no rfl rfl rfl rfl rfl ?_
              refine W_nil ?_
              exact N_step rfl rfl (Below.refl _ _)
             ·
              intro w73 vq73 hB73 hH73
              have hS73 := hS29.below hB73
              refine W_guard_no rfl rfl rfl rfl rfl ?_
              refine W_nil ?_
              exact N_step rfl rfl (Below.refl _ _)
             ·
              intro w74 vq74 hB74 hH74
              have hS74 := hS29.below hB74
              refine W_guard_no rfl rfl rfl rfl rfl ?_
              refine W_nil ?_
              exact N_step rfl rfl (Below.refl _ _)
             ·
              intro w75 vq75 hB75 hH75
              have hS75 := hS29.below hB75
              refine W_guard_no rfl rfl rfl rfl rfl ?_
              refine W_nil ?_
              exact N_step rfl rfl (Below.refl _ _)
             ·
              intro w76 vq76 hB76 hH76
              have hS76 := hS29.below hB76
              refine W_guard_no rfl rfl rfl rfl rfl ?_
              refine W_nil ?_
              exact N_step rfl rfl (Below.refl _ _)
             ·
              intro w77 vq77 hB77 hH77
              have hS77 := hS29.below hB77
              refine W_guard_no rfl rfl rfl rfl rfl ?_
              refine W_nil ?_
              exact N_step rfl rfl (Below.refl _ _)
             ·
              intro w78 vq78 hB78 hH78
              have hS78 := hS29.below hB78
              refine W_guard_no rfl rfl rfl rfl rfl ?_
              refine W_nil ?_
              exact N_step rfl rfl (Below.refl _ _)
             ·
              intro w79 vq79 hB79 hH79
              have hS79 := hS29.below hB79
              refine W_guard_no rfl rfl rfl rfl rfl ?_
              refine W_nil ?_
              exact N_step rfl rfl (Below.refl _ _)
            intro w80 vq80 hB80 hH80
            have hS80 := hS29.below hB80
            refine W_pick_t rfl rfl rfl ?_
            refine W_nil ?_
            exact N_join _ ⟨rfl, F29, (Frz.le.refl _), hS80⟩ ⟨rfl, rfl, rfl, rfl, rfl, rfl, rfl, (look_bool rfl (by first | rfl | (rw [hb47]; first | done | rfl) | simp [hb47])), trivial⟩
           ·
            rcases Bool.eq_false_or_eq_true (decide ((l31.length : Int) ≤ x34.want)) with hb81 | hb81
            ·
             apply C_draw 32 [[], [0], [1], [2], [2], [4, 2], [3, 5, 2], [2, 6], [7], [8], [8], [9, 10, 8], [11, 8], [12, 8], [13, 8], [14, 8], [8, 15], [16], [17], [17], [18, 19, 17], [20, 17], [21, 17], [22, 17], [23, 17], [17], [17], [25, 26, 17], [27, 17], [28, 17], [24, 29, 17], [30, 17]] [.val (.int .i64 x34.want), .val (.bool (decide (x34.want < 0))), .val (.bool false), .val (.int .i64 x34.want), .val (u7), .val (.int .i64 (l31.length : Int)), .val (.bool (decide ((l31.length : Int) ≤ x34.want))), .val (.bool (decide ((l31.length : Int) ≤ x34.want))), .val (.bool true), .val undef, .val undef, .val undef, .val undef, .val undef, .val undef, .val undef, .val (.bool true), .val (.bool true), .val undef, .val undef, .val undef, .val undef, .val undef, .val undef, .val undef, .val undef, .val undef, .val undef, .val undef, .val undef, .val undef, .val undef] Ty.mixed rfl rfl (by kernel_rfl) (by kernel_rfl) rfl
             ·
              refine ⟨?_, ?_, ?_, ?_, ?_, ?_, ?_, ?_, ?_, ?_, ?_, ?_, ?_, ?_, ?_, ?_, ?_, ?_, ?_, ?_, ?_, ?_, ?_, ?_, ?_, ?_, ?_, ?_, ?_, ?_, ?_, ?_, trivial⟩
              ·
               intro w82 vq82 hB82 hH82
               have hS82 := hS29.below hB82
               refine W_move rfl rfl ?_
               refine W_nil ?_
               exact N_step rfl rfl (Below.refl _ _)
              ·
               intro w83 vq83 hB83 hH83
               have hS83 := hS29.below hB83
               refine W_lss rfl rfl rfl ?_
               refine W_nil ?_
               exact N_step rfl rfl (Below.refl _ _)
              ·
               intro w84 vq84 hB84 hH84
               have hS84 := hS29.below hB84
               refine W_move rfl rfl ?_
               refine W_nil ?_
               exact N_step rfl (congrArg Value.bool hb47) (Below.refl _ _)
              ·
               intro w85 vq85 hB85 hH85
               have hS85 := hS29.below hB85
               refine W_guard_yes rfl ?_
               refine W_move rfl rfl ?_
               refine W_nil ?_
               exact N_step rfl rfl (Below.refl _ _)
              ·
               intro w86 vq86 hB86 hH86
               have hS86 := hS29.below hB86
               refine W_guard_yes rfl ?_
               refine W_move rfl rfl ?_
               refine W_nil ?_
               exact N_step rfl rfl (Below.refl _ _)
              ·
               intro w87 vq87 hB87 hH87
               have hS87 := hS29.below hB87
               refine W_guard_yes rfl ?_
               refine W_lenv rfl Go.Proofs.Try.underlying47 rfl (hS87.rowLn (k := 1) rfl) ?_
               refine W_nil ?_
               exact N_step rfl rfl (Below.refl _ _)
              ·
               intro w88 vq88 hB88 hH88
               have hS88 := hS29.below hB88
               refine W_guard_yes rfl ?_
               refine W_geq rfl rfl rfl ?_
               refine W_nil ?_
               exact N_step rfl rfl (Below.refl _ _)
              ·
               intro w89 vq89 hB89 hH89
               have hS89 := hS29.below hB89
               refine W_pick_f rfl rfl rfl ?_
               refine W_nil ?_
               exact N_step rfl rfl (Below.refl _ _)
              ·
               intro w90 vq90 hB90 hH90
               have hS90 := hS29.below hB90
               refine W_move rfl rfl ?_
               refine W_nil ?_
               exact N_step rfl (congrArg Value.bool hb81) (Below.refl _ _)
              ·
               intro w91 vq91 hB91 hH91
               have hS91 := hS29.below hB91
               refine W_guard_no rfl rfl rfl rfl rfl ?_
               refine W_nil ?_
               exact N_step rfl rfl (Below.refl _ _)
              ·
               intro w92 vq92 hB92 hH92
               have hS92 := hS29.below hB92
               refine W_guard_no rfl rfl rfl rfl rfl ?_
               refine W_nil ?_
               exact N_step rfl rfl (Below.refl _ _)
              ·
               intro w93 vq93 hB93 hH93
               have hS93 := hS29.below hB93
               refine W_guard_no rfl rfl rfl rfl rfl ?_
               refine W_nil ?_
               exact N_step rfl rfl (Below.refl _ _)
              ·
               intro w94 vq94 hB94 hH94
               have hS94 := hS29.below hB94
               refine W_guard_no rfl rfl rfl rfl rfl ?_
               refine W_nil ?_
               exact N_step rfl rfl (Below.refl _ _)
              ·
               intro w95 vq95 hB95 hH95
               have hS95 := hS29.below hB95
               refine W_guard_no rfl rfl rfl rfl rfl ?_
               refine W_nil ?_
               exact N_step rfl rfl (Below.refl _ _)
              ·
               intro w96 vq96 hB96 hH96
               have hS96 := hS29.below hB96
               refine W_guard_no rfl rfl rfl rfl rfl ?_
               refine W_nil ?_
               exact N_step rfl rfl (Below.refl _ _)
              ·
               intro w97 vq97 hB97 hH97
               have hS97 := hS29.below hB97
               refine W_guard_no rfl rfl rfl rfl rfl ?_
               refine W_nil ?_
               exact N_step rfl rfl (Below.refl _ _)
              ·
               intro w98 vq98 hB98 hH98
               have hS98 := hS29.below hB98
               refine W_pick_t rfl rfl rfl ?_
               refine W_nil ?_
               exact N_step rfl rfl (Below.refl _ _)
              ·
               intro w99 vq99 hB99 hH99
               have hS99 := hS29.below hB99
               refine W_move rfl rfl ?_
               refine W_nil ?_
               exact N_step rfl rfl (Below.refl _ _)
              ·
               intro w100 vq100 hB100 hH100
               have hS100 := hS29.below hB100
               refine W_guard_no rfl rfl rfl rfl rfl ?_
               refine W_nil ?_
               exact N_step rfl rfl (Below.refl _ _)
              ·
               intro w101 vq101 hB101 hH101
               have hS101 := hS29.below hB101
               refine W_guard_no rfl rfl rfl rfl rfl ?_
               refine W_nil ?_
               exact N_step rfl rfl (Below.refl _ _)
              ·
               intro w102 vq102 hB102 hH102
               have hS102 := hS29.below hB102
               refine W_guard_no rfl rfl rfl rfl rfl ?_
               refine W_nil ?_
               exact N_step rfl rfl (Below.refl _ _)
              ·
               intro w103 vq103 hB103 hH103
               have hS103 := hS29.below hB103
               refine W_guard_no rfl rfl rfl rfl rfl ?_
               refine W_nil ?_
               exact N_step rfl rfl (Below.refl _ _)
              ·
               intro w104 vq104 hB104 hH104
               have hS104 := hS29.below hB104
               refine W_guard_no rfl rfl rfl rfl rfl ?_
               refine W_nil ?_
               exact N_step rfl rfl (Below.refl _ _)
              ·
               intro w105 vq105 hB105 hH105
               have hS105 := hS29.below hB105
               refine W_guard_no rfl rfl rfl rfl rfl ?_
               refine W_nil ?_
               exact N_step rfl rfl (Below.refl _ _)
              ·
               intro w106 vq106 hB106 hH106
               have hS106 := hS29.below hB106
               refine W_guard_no rfl rfl rfl rfl rfl ?_
               refine W_nil ?_
               exact N_step rfl rfl (Below.refl _ _)
              ·
               intro w107 vq107 hB107 hH107
               have hS107 := hS29.below hB107
               refine W_guard_no rfl rfl rfl rfl rfl ?_
               refine W_nil ?_
               exact N_step rfl rfl (Below.refl _ _)
              ·
               intro w108 vq108 hB108 hH108
               have hS108 := hS29.below hB108
               refine W_guard_no rfl rfl rfl rfl rfl ?_
               refine W_nil ?_
               exact N_step rfl rfl (Below.refl _ _)
              ·
               intro w109 vq109 hB109 hH109
               have hS109 := hS29.below hB109
               refine W_guard_no rfl rfl rfl rfl rfl ?_
               refine W_nil ?_
               exact N_step rfl rfl (Below.refl _ _)
              ·
               intro w110 vq110 hB110 hH110
               have hS110 := hS29.below hB110
               refine W_guard_no rfl rfl rfl rfl rfl ?_
               refine W_nil ?_
               exact N_step rfl rfl (Below.refl _ _)
              ·
               intro w111 vq111 hB111 hH111
               have hS111 := hS29.below hB111
               refine W_guard_no rfl rfl rfl rfl rfl ?_
               refine W_nil ?_
               exact N_step rfl rfl (Below.refl _ _)
              ·
               intro w112 vq112 hB112 hH112
               have hS112 := hS29.below hB112
               refine W_guard_no rfl rfl rfl rfl rfl ?_
               refine W_nil ?_
               exact N_step rfl rfl (Below.refl _ _)
              ·
               intro w113 vq113 hB113 hH113
               have hS113 := hS29.below hB113
               refine W_guard_no rfl rfl rfl rfl rfl ?_
               refine W_nil ?_
               exact N_step rfl rfl (Below.refl _ _)
             intro w114 vq114 hB114 hH114
             have hS114 := hS29.below hB114
             refine W_pick_t rfl rfl rfl ?_
             refine W_nil ?_
             exact N_join _ ⟨rfl, F29, (Frz.le.refl _), hS114⟩ ⟨rfl, rfl, rfl, rfl, rfl, rfl, rfl, (look_bool rfl (by first | rfl | (rw [hb81, hb47]; first | done | rfl) | simp [hb47, hb81])), trivial⟩
            ·
             rcases Bool.eq_false_or_eq_true (decide ((x37.locs.length : Int) = 0)) with hb115 | hb115
             ·
              have hy116 := hx37
              rw [only_t (by first | rfl | (rw [hb81, hb47]; first | done | rfl) | simp [hb47, hb81, hb115])] at hy116
              obtain ⟨hp117, hy117⟩ := ix_some hy116
              obtain ⟨cs117, hr117, he117⟩ := hS29.rowAt (k := 1) rfl hy117
              obtain ⟨ue38_0, rfl, hle38_0, hue38_0⟩ := hr117
              replace he117 : El _ _ 33 _ _ := he117
              apply C_draw 32 [[], [0], [1], [2], [2], [4, 2], [3, 5, 2], [2, 6], [7], [8], [8], [9, 10, 8], [11, 8], [12, 8], [13, 8], [14, 8], [8, 15], [16], [17], [17], [18, 19, 17], [20, 17], [21, 17], [22, 17], [23, 17], [17], [17], [25, 26, 17], [27, 17], [28, 17], [24, 29, 17], [30, 17]] [.val (.int .i64 x34.want), .val (.bool (decide (x34.want < 0))), .val (.bool false), .val (.int .i64 x34.want), .val (u7), .val (.int .i64 (l31.length : Int)), .val (.bool (decide ((l31.length : Int) ≤ x34.want))), .val (.bool (decide ((l31.length : Int) ≤ x34.want))), .val (.bool false), .val (u7), .val (.int .i64 x34.want), .val (elp u7 (x34.want.toNat * 33)), .val (elp u7 ((x34.want.toNat * 33) + 32)), .val (ue38_0), .val (.int .i64 (x37.locs.length : Int)), .val (.bool (decide ((x37.locs.length : Int) = 0))), .val (.bool (decide ((x37.locs.length : Int) = 0))), .val (.bool true), .val undef, .val undef, .val undef, .val undef, .val undef, .val undef, .val undef, .val undef, .val undef, .val undef, .val undef, .val undef, .val undef, .val undef] Ty.mixed rfl rfl (by kernel_rfl) (by kernel_rfl) rfl
              ·
               refine ⟨?_, ?_, ?_, ?_, ?_, ?_, ?_, ?_, ?_, ?_, ?_, ?_, ?_, ?_, ?_, ?_, ?_, ?_, ?_, ?_, ?_, ?_, ?_, ?_, ?_, ?_, ?_, ?_, ?_, ?_, ?_, ?_, trivial⟩
               ·
                intro w118 vq118 hB118 hH118
                have hS118 := hS29.below hB118
                refine W_move rfl rfl ?_
                refine W_nil ?_
                exact N_step rfl rfl (Below.refl _ _)
               ·
                intro w119 vq119 hB119 hH119
                have hS119 := hS29.below hB119
                refine W_lss rfl rfl rfl ?_
                refine W_nil ?_
                exact N_step rfl rfl (Below.refl _ _)
               ·
                intro w120 vq120 hB120 hH120
                have hS120 := hS29.below hB120
                refine W_move rfl rfl ?_
                refine W_nil ?_
                exact N_step rfl (congrArg Value.bool hb47) (Below.refl _ _)
               ·
                intro w121 vq121 hB121 hH121
                have hS121 := hS29.below hB121
                refine W_guard_yes rfl ?_
                refine W_move rfl rfl ?_
                refine W_nil ?_
                exact N_step rfl rfl (Below.refl _ _)
               ·
                intro w122 vq122 hB122 hH122
                have hS122 := hS29.below hB122
                refine W_guard_yes rfl ?_
                refine W_move rfl rfl ?_
                refine W_nil ?_
                exact N_step rfl rfl (Below.refl _ _)
               ·
                intro w123 vq123 hB123 hH123
                have hS123 := hS29.below hB123
                refine W_guard_yes rfl ?_
                refine W_lenv rfl Go.Proofs.Try.underlying47 rfl (hS123.rowLn (k := 1) rfl) ?_
                refine W_nil ?_
                exact N_step rfl rfl (Below.refl _ _)
               ·
                intro w124 vq124 hB124 hH124
                have hS124 := hS29.below hB124
                refine W_guard_yes rfl ?_
                refine W_geq rfl rfl rfl ?_
                refine W_nil ?_
                exact N_step rfl rfl (Below.refl _ _)
               ·
                intro w125 vq125 hB125 hH125
                have hS125 := hS29.below hB125
                refine W_pick_f rfl rfl rfl ?_
                refine W_nil ?_
                exact N_step rfl rfl (Below.refl _ _)
               ·
                intro w126 vq126 hB126 hH126
                have hS126 := hS29.below hB126
                refine W_move rfl rfl ?_
                refine W_nil ?_
                exact N_step rfl (congrArg Value.bool hb81) (Below.refl _ _)
               ·
                intro w127 vq127 hB127 hH127
                have hS127 := hS29.below hB127
                refine W_guard_yes rfl ?_
                refine W_move rfl rfl ?_
                refine W_nil ?_
                exact N_step rfl rfl (Below.refl _ _)
               ·
                intro w128 vq128 hB128 hH128
                have hS128 := hS29.below hB128
                refine W_guard_yes rfl ?_
                refine W_move rfl rfl ?_
                refine W_nil ?_
                exact N_step rfl rfl (Below.refl _ _)
               ·
                intro w129 vq129 hB129 hH129
                have hS129 := hS29.below hB129
                refine W_guard_yes rfl ?_
                refine W_ix rfl Go.Proofs.Try.underlying47 Ty.cells52 Ty.info52 rfl rfl (he117.below hB129) hp117 rfl ?_
                refine W_nil ?_
                exact N_step rfl rfl (Below.refl _ _)
               ·
                intro w130 vq130 hB130 hH130
                have hS130 := hS29.below hB130
                refine W_guard_yes rfl ?_
                refine W_fld 32 rfl Ty.field52_1 rfl (he117.below hB130) ?_
                refine W_nil ?_
                exact N_step rfl rfl (Below.refl _ _)
               ·
                intro w131 vq131 hB131 hH131
                have hS131 := hS29.below hB131
                refine W_guard_yes rfl ?_
                refine W_ld1 32 rfl Ty.cell49 rfl (he117.below hB131) (by omega) rfl ?_
                refine W_nil ?_
                exact N_step rfl rfl (Below.refl _ _)
               ·
                intro w132 vq132 hB132 hH132
                have hS132 := hS29.below hB132
                refine W_guard_yes rfl ?_
                refine W_lenv rfl Go.Proofs.Try.underlying49 rfl hue38_0.ln ?_
                refine W_nil ?_
                exact N_step rfl rfl (Below.refl _ _)
               ·
                intro w133 vq133 hB133 hH133
                have hS133 := hS29.below hB133
                refine W_guard_yes rfl ?_
                refine W_eql rfl rfl rfl ?_
                refine W_nil ?_
                exact N_step rfl rfl (Below.refl _ _)
               ·
                intro w134 vq134 hB134 hH134
                have hS134 := hS29.below hB134
                refine W_pick_f rfl rfl rfl ?_
                refine W_nil ?_
                exact N_step rfl rfl (Below.refl _ _)
               ·
                intro w135 vq135 hB135 hH135
                have hS135 := hS29.below hB135
                refine W_move rfl rfl ?_
                refine W_nil ?_
                exact N_step rfl (congrArg Value.bool hb115) (Below.refl _ _)
               ·
                intro w136 vq136 hB136 hH136
                have hS136 := hS29.below hB136
                refine W_guard_no rfl rfl rfl rfl rfl ?_
                refine W_nil ?_
                exact N_step rfl rfl (Below.refl _ _)
               ·
                intro w137 vq137 hB137 hH137
                have hS137 := hS29.below hB137
                refine W_guard_no rfl rfl rfl rfl rfl ?_
                refine W_nil ?_
                exact N_step rfl rfl (Below.refl _ _)
               ·
                intro w138 vq138 hB138 hH138
                have hS138 := hS29.below hB138
                refine W_guard_no rfl rfl rfl rfl rfl ?_
                refine W_nil ?_
                exact N_step rfl rfl (Below.refl _ _)
               ·
                intro w139 vq139 hB139 hH139
                have hS139 := hS29.below hB139
                refine W_guard_no rfl rfl rfl rfl rfl ?_
                refine W_nil ?_
                exact N_step rfl rfl (Below.refl _ _)
               ·
                intro w140 vq140 hB140 hH140
                have hS140 := hS29.below hB140
                refine W_guard_no rfl rfl rfl rfl rfl ?_
                refine W_nil ?_
                exact N_step rfl rfl (Below.refl _ _)
               ·
                intro w141 vq141 hB141 hH141
                have hS141 := hS29.below hB141
                refine W_guard_no rfl rfl rfl rfl rfl ?_
                refine W_nil ?_
                exact N_step rfl rfl (Below.refl _ _)
               ·
                intro w142 vq142 hB142 hH142
                have hS142 := hS29.below hB142
                refine W_guard_no rfl rfl rfl rfl rfl ?_
                refine W_nil ?_
                exact N_step rfl rfl (Below.refl _ _)
               ·
                intro w143 vq143 hB143 hH143
                have hS143 := hS29.below hB143
                refine W_guard_no rfl rfl rfl rfl rfl ?_
                refine W_nil ?_
                exact N_step rfl rfl (Below.refl _ _)
               ·
                intro w144 vq144 hB144 hH144
                have hS144 := hS29.below hB144
                refine W_guard_no rfl rfl rfl rfl rfl ?_
                refine W_nil ?_
                exact N_step rfl rfl (Below.refl _ _)
               ·
                intro w145 vq145 hB145 hH145
                have hS145 := hS29.below hB145
                refine W_guard_no rfl rfl rfl rfl rfl ?_
                refine W_nil ?_
                exact N_step rfl rfl (Below.refl _ _)
               ·
                intro w146 vq146 hB146 hH146
                have hS146 := hS29.below hB146
                refine W_guard_no rfl rfl rfl rfl rfl ?_
                refine W_nil ?_
                exact N_step rfl rfl (Below.refl _ _)
               ·
                intro w147 vq147 hB147 hH147
                have hS147 := hS29.below hB147
                refine W_guard_no rfl rfl rfl rfl rfl ?_
                refine W_nil ?_
                exact N_step rfl rfl (Below.refl _ _)
               ·
                intro w148 vq148 hB148 hH148
                have hS148 := hS29.below hB148
                refine W_guard_no rfl rfl rfl rfl rfl ?_
                refine W_nil ?_
                exact N_step rfl rfl (Below.refl _ _)
               ·
                intro w149 vq149 hB149 hH149
                have hS149 := hS29.below hB149
                refine W_guard_no rfl rfl rfl rfl rfl ?_
                refine W_nil ?_
                exact N_step rfl rfl (Below.refl _ _)
              intro w150 vq150 hB150 hH150
              have hS150 := hS29.below hB150
              refine W_pick_t rfl rfl rfl ?_
              refine W_nil ?_
              exact N_join _ ⟨rfl, F29, (Frz.le.refl _), hS150⟩ ⟨rfl, rfl, rfl, rfl, rfl, rfl, rfl, (look_bool rfl (by first | rfl | (rw [hb81, hb115, hb47]; first | done | rfl) | simp [hb47, hb81, hb115])), trivial⟩
             ·
              have hy151 := hx37
              rw [only_t (by first | rfl | (rw [hb81, hb47]; first | done | rfl) | simp [hb47, hb81, hb115])] at hy151
              obtain ⟨hp152, hy152⟩ := ix_some hy151
              obtain ⟨cs152, hr152, he152⟩ := hS29.rowAt (k := 1) rfl hy152
              obtain ⟨ue38_0, rfl, hle38_0, hue38_0⟩ := hr152
              replace he152 : El _ _ 33 _ _ := he152
              have hy153 := hx39
              rw [only_t (by first | rfl | (rw [hb81, hb115, hb47]; first | done | rfl) | simp [hb47, hb81, hb115])] at hy153
              obtain ⟨hp154, hy154⟩ := ix_some hy153
              obtain ⟨cs154, hr154, he154⟩ := hS29.rowAt (k := 1) rfl hy154
              obtain ⟨ue40_0, rfl, hle40_0, hue40_0⟩ := hr154
              replace he154 : El _ _ 33 _ _ := he154
              have hy155 := hx41
              rw [only_t (by first | rfl | (rw [hb81, hb115, hb47]; first | done | rfl) | simp [hb47, hb81, hb115])] at hy155
              obtain ⟨hp156, hy156⟩ := ix_some hy155
              obtain ⟨cs156, hr156, he156⟩ := hue40_0.at_ hy156
              obtain rfl := hr156
              replace he156 : Elf _ _ 4 _ _ := he156
              have hy157 := hx43
              rw [only_t (by first | rfl | (rw [hb81, hb115, hb47]; first | done | rfl) | simp [hb47, hb81, hb115])] at hy157
              obtain ⟨hp158, hy158⟩ := ix_some hy157
              obtain ⟨cs158, hr158, he158⟩ := hS29.rowAt (k := 0) rfl hy158
              obtain rfl := hr158
              replace he158 : El _ _ 5 _ _ := he158
              apply C_draw 32 [[], [0], [1], [2], [2], [4, 2], [3, 5, 2], [2, 6], [7], [8], [8], [9, 10, 8], [11, 8], [12, 8], [13, 8], [14, 8], [8, 15], [16], [17], [17], [18, 19, 17], [20, 17], [21, 17], [22, 17], [23, 17], [17], [17], [25, 26, 17], [27, 17], [28, 17], [24, 29, 17], [30, 17]] [.val (.int .i64 x34.want), .val (.bool (decide (x34.want < 0))), .val (.bool false), .val (.int .i64 x34.want), .val (u7), .val (.int .i64 (l31.length : Int)), .val (.bool (decide ((l31.length : Int) ≤ x34.want))), .val (.bool (decide ((l31.length : Int) ≤ x34.want))), .val (.bool false), .val (u7), .val (.int .i64 x34.want), .val (elp u7 (x34.want.toNat * 33)), .val (elp u7 ((x34.want.toNat * 33) + 32)), .val (ue38_0), .val (.int .i64 (x37.locs.length : Int)), .val (.bool (decide ((x37.locs.length : Int) = 0))), .val (.bool (decide ((x37.locs.length : Int) = 0))), .val (.bool false), .val (u7), .val (.int .i64 x34.want), .val (elp u7 (x34.want.toNat * 33)), .val (elp u7 ((x34.want.toNat * 33) + 32)), .val (ue40_0), .val (elp ue40_0 ((0 : Int).toNat * 4)), .val (.agg (Loc.cells x41).toArray), .val (ur26_0), .val (.int .i64 i30), .val (elp ur26_0 (i30.toNat * 5)), .val (elp ur26_0 ((i30.toNat * 5) + 1)), .val (.agg (Loc.cells x43.loc).toArray), .val (.bool r45), .val (.bool (!r45))] Ty.mixed rfl rfl (by kernel_rfl) (by kernel_rfl) rfl
              ·
               refine ⟨?_, ?_, ?_, ?_, ?_, ?_, ?_, ?_, ?_, ?_, ?_, ?_, ?_, ?_, ?_, ?_, ?_, ?_, ?_, ?_, ?_, ?_, ?_, ?_, ?_, ?_, ?_, ?_, ?_, ?_, ?_, ?_, trivial⟩
               ·
                intro w159 vq159 hB159 hH159
                have hS159 := hS29.below hB159
                refine W_move rfl rfl ?_
                refine W_nil ?_
                exact N_step rfl rfl (Below.refl _ _)
               ·
                intro w160 vq160 hB160 hH160
                have hS160 := hS29.below hB160
                refine W_lss rfl rfl rfl ?_
                refine W_nil ?_
                exact N_step rfl rfl (Below.refl _ _)
               ·
                intro w161 vq161 hB161 hH161
                have hS161 := hS29.below hB161
                refine W_move rfl rfl ?_
                refine W_nil ?_
                exact N_step rfl (congrArg Value.bool hb47) (Below.refl _ _)
               ·
                intro w162 vq162 hB162 hH162
                have hS162 := hS29.below hB162
                refine W_guard_yes rfl ?_
                refine W_move rfl rfl ?_
                refine W_nil ?_
                exact N_step rfl rfl (Below.refl _ _)
               ·
                intro w163 vq163 hB163 hH163
                have hS163 := hS29.below hB163
                refine W_guard_yes rfl ?_
                refine W_move rfl rfl ?_
                refine W_nil ?_
                exact N_step rfl rfl (Below.refl _ _)
               ·
                intro w164 vq164 hB164 hH164
                have hS164 := hS29.below hB164
                refine W_guard_yes rfl ?_
                refine W_lenv rfl Go.Proofs.Try.underlying47 rfl (hS164.rowLn (k := 1) rfl) ?_
                refine W_nil ?_
                exact N_step rfl rfl (Below.refl _ _)
               ·
                intro w165 vq165 hB165 hH165
                have hS165 := hS29.below hB165
                refine W_guard_yes rfl ?_
                refine W_geq rfl rfl rfl ?_
                refine W_nil ?_
                exact N_step rfl rfl (Below.refl _ _)
               ·
                intro w166 vq166 hB166 hH166
                have hS166 := hS29.below hB166
                refine W_pick_f rfl rfl rfl ?_
                refine W_nil ?_
                exact N_step rfl rfl (Below.refl _ _)
               ·
                intro w167 vq167 hB167 hH167
                have hS167 := hS29.below hB167
                refine W_move rfl rfl ?_
                refine W_nil ?_
                exact N_step rfl (congrArg Value.bool hb81) (Below.refl _ _)
               ·
                intro w168 vq168 hB168 hH168
                have hS168 := hS29.below hB168
                refine W_guard_yes rfl ?_
                refine W_move rfl rfl ?_
                refine W_nil ?_
                exact N_step rfl rfl (Below.refl _ _)
               ·
                intro w169 vq169 hB169 hH169
                have hS169 := hS29.below hB169
                refine W_guard_yes rfl ?_
                refine W_move rfl rfl ?_
                refine W_nil ?_
                exact N_step rfl rfl (Below.refl _ _)
               ·
                intro w170 vq170 hB170 hH170
                have hS170 := hS29.below hB170
                refine W_guard_yes rfl ?_
                refine W_ix rfl Go.Proofs.Try.underlying47 Ty.cells52 Ty.info52 rfl rfl (he152.below hB170) hp152 rfl ?_
                refine W_nil ?_
                exact N_step rfl rfl (Below.refl _ _)
               ·
                intro w171 vq171 hB171 hH171
                have hS171 := hS29.below hB171
                refine W_guard_yes rfl ?_
                refine W_fld 32 rfl Ty.field52_1 rfl (he152.below hB171) ?_
                refine W_nil ?_
                exact N_step rfl rfl (Below.refl _ _)
               ·
                intro w172 vq172 hB172 hH172
                have hS172 := hS29.below hB172
                refine W_guard_yes rfl ?_
                refine W_ld1 32 rfl Ty.cell49 rfl (he152.below hB172) (by omega) rfl ?_
                refine W_nil ?_
                exact N_step rfl rfl (Below.refl _ _)
               ·
                intro w173 vq173 hB173 hH173
                have hS173 := hS29.below hB173
                refine W_guard_yes rfl ?_
                refine W_lenv rfl Go.Proofs.Try.underlying49 rfl hue38_0.ln ?_
                refine W_nil ?_
                exact N_step rfl rfl (Below.refl _ _)
               ·
                intro w174 vq174 hB174 hH174
                have hS174 := hS29.below hB174
                refine W_guard_yes rfl ?_
                refine W_eql rfl rfl rfl ?_
                refine W_nil ?_
                exact N_step rfl rfl (Below.refl _ _)
               ·
                intro w175 vq175 hB175 hH175
                have hS175 := hS29.below hB175
                refine W_pick_f rfl rfl rfl ?_
                refine W_nil ?_
                exact N_step rfl rfl (Below.refl _ _)
               ·
                intro w176 vq176 hB176 hH176
                have hS176 := hS29.below hB176
                refine W_move rfl rfl ?_
                refine W_nil ?_
                exact N_step rfl (congrArg Value.bool hb115) (Below.refl _ _)
               ·
                intro w177 vq177 hB177 hH177
                have hS177 := hS29.below hB177
                refine W_guard_yes rfl ?_
                refine W_move rfl rfl ?_
                refine W_nil ?_
                exact N_step rfl rfl (Below.refl _ _)
               ·
                intro w178 vq178 hB178 hH178
                have hS178 := hS29.below hB178
                refine W_guard_yes rfl ?_
                refine W_move rfl rfl ?_
                refine W_nil ?_
                exact N_step rfl rfl (Below.refl _ _)
               ·
                intro w179 vq179 hB179 hH179
                have hS179 := hS29.below hB179
                refine W_guard_yes rfl ?_
                refine W_ix rfl Go.Proofs.Try.underlying47 Ty.cells52 Ty.info52 rfl rfl (he154.below hB179) hp154 rfl ?_
                refine W_nil ?_
                exact N_step rfl rfl (Below.refl _ _)
               ·
                intro w180 vq180 hB180 hH180
                have hS180 := hS29.below hB180
                refine W_guard_yes rfl ?_
                refine W_fld 32 rfl Ty.field52_1 rfl (he154.below hB180) ?_
                refine W_nil ?_
                exact N_step rfl rfl (Below.refl _ _)
               ·
                intro w181 vq181 hB181 hH181
                have hS181 := hS29.below hB181
                refine W_guard_yes rfl ?_
                refine W_ld1 32 rfl Ty.cell49 rfl (he154.below hB181) (by omega) rfl ?_
                refine W_nil ?_
                exact N_step rfl rfl (Below.refl _ _)
               ·
                intro w182 vq182 hB182 hH182
                have hS182 := hS29.below hB182
                refine W_guard_yes rfl ?_
                refine W_ix rfl Go.Proofs.Try.underlying49 Ty.cells37 Ty.info37 rfl rfl (he156.el hS182.agree) hp156 rfl ?_
                refine W_nil ?_
                exact N_step rfl rfl (Below.refl _ _)
               ·
                intro w183 vq183 hB183 hH183
                have hS183 := hS29.below hB183
                refine W_guard_yes rfl ?_
                refine W_ldg 0 ((Loc.cells x41)) rfl Ty.agg37 Ty.size37 rfl (he156.el hS183.agree) (by omega) (fun q u h => sub_at (post := []) rfl h) ?_
                refine W_nil ?_
                exact N_step rfl rfl (Below.refl _ _)
               ·
                intro w184 vq184 hB184 hH184
                have hS184 := hS29.below hB184
                refine W_guard_yes rfl ?_
                refine W_move rfl rfl ?_
                refine W_nil ?_
                exact N_step rfl rfl (Below.refl _ _)
               ·
                intro w185 vq185 hB185 hH185
                have hS185 := hS29.below hB185
                refine W_guard_yes rfl ?_
                refine W_move rfl rfl ?_
                refine W_nil ?_
                exact N_step rfl rfl (Below.refl _ _)
               ·
                intro w186 vq186 hB186 hH186
                have hS186 := hS29.below hB186
                refine W_guard_yes rfl ?_
                refine W_ix rfl Go.Proofs.Try.underlying23 Ty.cells39 Ty.info39 rfl rfl (he158.below hB186) hp158 rfl ?_
                refine W_nil ?_
                exact N_step rfl rfl (Below.refl _ _)
               ·
                intro w187 vq187 hB187 hH187
                have hS187 := hS29.below hB187
                refine W_guard_yes rfl ?_
                refine W_fld 1 rfl Ty.field39_1 rfl (he158.below hB187) ?_
                refine W_nil ?_
                exact N_step rfl rfl (Below.refl _ _)
               ·
                intro w188 vq188 hB188 hH188
                have hS188 := hS29.below hB188
                refine W_guard_yes rfl ?_
                refine W_ldg 1 ((Loc.cells x43.loc)) rfl Ty.agg37 Ty.size37 rfl (he158.below hB188) (by omega) (fun q u h => sub_at (post := []) rfl h) ?_
                refine W_nil ?_
                exact N_step rfl rfl (Below.refl _ _)
               ·
                intro w189 vq189 hB189 hH189
                have hS189 := hS29.below hB189
                refine W_guard_yes rfl ?_
                have hy190 := hr45
                rw [only_t (by first | rfl | (rw [hb81, hb115, hb47]; first | done | rfl) | simp [hb47, hb81, hb115])] at hy190
                refine W_call rfl Ty.named24 rfl (cellarerkeep_Loc_ok hS189.agree hy190) ?_
                rintro v191 w191 ⟨Fr45, rfl, hT191⟩
                have hS191 := hS189.lent hT191
                refine W_nil ?_
                exact N_step rfl rfl hT191.below0
               ·
                intro w192 vq192 hB192 hH192
                have hS192 := hS29.below hB192
                refine W_guard_yes rfl ?_
                refine W_not rfl rfl ?_
                refine W_nil ?_
                exact N_step rfl rfl (Below.refl _ _)
              intro w193 vq193 hB193 hH193
              have hS193 := hS29.below hB193
              refine W_pick_f rfl rfl rfl ?_
              refine W_nil ?_
              exact N_join _ ⟨rfl, F29, (Frz.le.refl _), hS193⟩ ⟨rfl, rfl, rfl, rfl, rfl, rfl, rfl, (look_bool rfl (by first | rfl | (rw [hb81, hb115, hb47]; first | done | rfl) | simp [hb47, hb81, hb115])), trivial⟩
          rintro E w46 ⟨rfl, F46, le46, hS46⟩
          refine N_code ?_
          refine C_cond rfl (fun hc194 => ?_) (fun hc194 => ?_)
          ·
           rw [if_t hc194] at H
           refine C_seq ?_
           refine C_region ?_
           refine W_assign rfl rfl ?_
           refine W_nil ?_
           refine N_code ?_
           obtain rfl := Option.some.inj H
           refine C_ret rfl rfl ?_
           exact ⟨F46, rfl, hS46.pick [] (by decide)⟩
          ·
           rw [if_f hc194] at H
           refine C_skip ?_
           refine N_code ?_
           obtain ⟨x195, hx195, H⟩ := bd_some H
           obtain ⟨l197, hl197, H⟩ := bd_some H
           refine C_region ?_
           refine W_move rfl rfl ?_
           refine W_move rfl rfl ?_
           refine W_move rfl rfl ?_
           refine W_move rfl rfl ?_
           obtain ⟨hp199, hy199⟩ := ix_some hx195
           obtain ⟨cs199, hr199, he199⟩ := hS46.rowAt (k := 1) rfl hy199
           obtain ⟨ue196_0, rfl, hle196_0, hue196_0⟩ := hr199
           replace he199 : El _ _ 33 _ _ := he199
           refine W_ix rfl Go.Proofs.Try.underlying47 Ty.cells52 Ty.info52 rfl rfl he199 hp199 rfl ?_
           refine W_fld 32 rfl Ty.field52_1 rfl he199 ?_
           refine W_ld1 32 rfl Ty.cell49 rfl he199 (by omega) rfl ?_
           refine W_cutM 1 (x195.locs.length : Int) rfl Go.Proofs.Try.underlying49 Ty.cells37 Ty.info37 rfl ⟨_, rfl⟩ rfl hue196_0 hl197 ?_
           intro q198 hv198
           refine W_ix rfl Go.Proofs.Try.underlying47 Ty.cells52 Ty.info52 rfl rfl he199 hp199 rfl ?_
           refine W_fld 32 rfl Ty.field52_1 rfl he199 ?_
           refine W_put (c := [q198]) 1 (x34.want.toNat) 32 x195 (Want.mk x195.id l197) rfl rfl hS46 rfl (ix_some hx195).2 (by first | rfl | (show _ = _ * 33 + _; omega)) (by rw [hv198.ln.cells]) Ty.size49 (by intro y hy; simp at hy; subst hy; exact hv198.ln.one) (by first | decide | exact Nat.le_of_ble_eq_true rfl) (by rintro cs ⟨a1, rfl, c0, b1⟩; exact ⟨q198, rfl, c0, hv198⟩) ?_
           intro w200 hS200
           refine W_nil ?_
           refine N_block ?_
           refine N_code ?_
           refine C_region ?_
           refine W_move rfl rfl ?_
           refine W_add rfl rfl rfl rfl ?_
           refine W_assign rfl rfl ?_
           refine W_nil ?_
           exact N_againM (wr (i30 + 1), (l31.set x34.want.toNat (Want.mk x195.id l197))) _ H ⟨F46, rfl, (le29.trans le46), hS200⟩ ⟨rfl, rfl, rfl, rfl, rfl, rfl, trivial⟩
         ·
          rw [if_f hc33] at H
          refine C_exit _ rfl ?_
          refine N_block ?_
          exact N_join _ ⟨l31, H, ⟨F29, rfl, le29, hS29.pick [1] (by decide)⟩⟩ ⟨rfl, rfl, rfl, rfl, trivial⟩
      ·
       rintro E w24 ⟨l25, H, F24, rfl, le24, hS24⟩
       dsimp only [cellarerlaw21_PlanWithout.k4] at H
       refine C_region ?_
       refine W_move rfl rfl ?_
       refine W_add rfl rfl rfl rfl ?_
       refine W_assign rfl rfl ?_
       refine W_nil ?_
       exact N_againM (wr (i20 + 1), l25) _ H ⟨F24, rfl, (le19.trans le24), hS24⟩ ⟨rfl, rfl, rfl, rfl, trivial⟩
     ·
      rw [if_f hc23] at H
      refine C_exit _ rfl ?_
      exact N_join _ ⟨l21, H, ⟨F19, rfl, le19, hS19⟩⟩ ⟨rfl, rfl, trivial⟩
   ·
    rintro E w9 ⟨l10, H, F9, rfl, le9, hS9⟩
    dsimp only [cellarerlaw21_PlanWithout.k2] at H
    refine C_seq ?_
    obtain ⟨r11, hr11, H⟩ := bd_some H
    refine C_region ?_
    refine W_move rfl rfl ?_
    refine W_call rfl Ty.named27 rfl (plan_Order_ok (now_agree _) (hS9.rowNow (k := 0) rfl) hr11) ?_
    rintro v12 w12 ⟨Fr11, ur11_0, ur11_1, rfl, hT12⟩
    have hS12 := hS9.lentFlat hT12 ⟨fun h => h, ⟨fun h => h, trivial⟩⟩
    refine W_move rfl rfl ?_
    refine W_extract rfl rfl rfl ?_
    refine W_extract rfl rfl rfl ?_
    refine W_assign rfl rfl ?_
    refine W_assign rfl rfl ?_
    refine W_nil ?_
    refine N_code ?_
    refine C_seq ?_
    obtain ⟨r13, hr13, H⟩ := bd_some H
    refine C_join (fun E wq => E = [(2, .bool ((decide ((r11.1.length : Int) = 0) && decide ((r11.2.length : Int) = (x0.length : Int))) && r13))] ∧ ∃ F14 : Frz, F9.le F14 ∧ St [] w F F14 [.row Read.t 39 ur11_0 r11.1, .row tI 3 ur11_1 r11.2, .row Want.t 52 u7 l10] wq) ?_ ?_
    ·
     rcases Bool.eq_false_or_eq_true (decide ((r11.1.length : Int) = 0)) with hb15 | hb15
     ·
      rcases Bool.eq_false_or_eq_true (decide ((r11.2.length : Int) = (x0.length : Int))) with hb16 | hb16
      ·
       refine C_region ?_
       refine W_move rfl rfl ?_
       refine W_lenv rfl Go.Proofs.Try.underlying23 rfl (hS12.rowLn (k := 0) rfl) ?_
       refine W_eql rfl rfl rfl ?_
       refine W_move rfl rfl ?_
       refine W_known (t := 118) true rfl hb15 ?_
       refine W_guard_yes rfl ?_
       refine W_move rfl rfl ?_
       refine W_guard_yes rfl ?_
       refine W_lenv rfl Go.Proofs.Try.underlying22 rfl (hS12.rowLn (k := 1) rfl) ?_
       refine W_guard_yes rfl ?_
       refine W_move rfl rfl ?_
       refine W_guard_yes rfl ?_
       refine W_lenv rfl Go.Proofs.Try.underlying47 rfl h0.ln ?_
       refine W_guard_yes rfl ?_
       refine W_eql rfl rfl rfl ?_
       refine W_pick_t rfl rfl rfl ?_
       refine W_move rfl rfl ?_
       refine W_known (t := 125) true rfl hb16 ?_
       refine W_guard_yes rfl ?_
       have hy17 := hr13
       rw [only_t (by first | rfl | (rw [hb16, hb15]; first | done | rfl) | simp [hb15, hb16])] at hy17
       refine W_call rfl Ty.named30 rfl (cellarerlaw21_wakes_ok hS12.agree hy17) ?_
       rintro v18 w18 ⟨Fr13, rfl, hT18⟩
       have hS18 := hS12.lent hT18
       refine W_pick_t rfl rfl rfl ?_
       refine W_assign rfl rfl ?_
       refine W_nil ?_
       exact N_join _ ⟨rfl, F9, (Frz.le.refl _), hS18⟩ ⟨(look_bool rfl (by first | rfl | (rw [hb16, hb15]; first | done | rfl) | simp [hb15, hb16])), trivial⟩
      ·
       refine C_region ?_
       refine W_move rfl rfl ?_
       refine W_lenv rfl Go.Proofs.Try.underlying23 rfl (hS12.rowLn (k := 0) rfl) ?_
       refine W_eql rfl rfl rfl ?_
       refine W_move rfl rfl ?_
       refine W_known (t := 118) true rfl hb15 ?_
       refine W_guard_yes rfl ?_
       refine W_move rfl rfl ?_
       refine W_guard_yes rfl ?_
       refine W_lenv rfl Go.Proofs.Try.underlying22 rfl (hS12.rowLn (k := 1) rfl) ?_
       refine W_guard_yes rfl ?_
       refine W_move rfl rfl ?_
       refine W_guard_yes rfl ?_
       refine W_lenv rfl Go.Proofs.Try.underlying47 rfl h0.ln ?_
       refine W_guard_yes rfl ?_
       refine W_eql rfl rfl rfl ?_
       refine W_pick_t rfl rfl rfl ?_
       refine W_move rfl rfl ?_
       refine W_known (t := 125) false rfl hb16 ?_
       refine W_guard_no rfl rfl rfl rfl rfl ?_
       refine W_pick_f rfl rfl rfl ?_
       refine W_assign rfl rfl ?_
       refine W_nil ?_
       exact N_join _ ⟨rfl, F9, (Frz.le.refl _), hS12⟩ ⟨(look_bool rfl (by first | rfl | (rw [hb16, hb15]; first | done | rfl) | simp [hb15, hb16])), trivial⟩
     ·
      refine C_region ?_
      refine W_move rfl rfl ?_
      refine W_lenv rfl Go.Proofs.Try.underlying23 rfl (hS12.rowLn (k := 0) rfl) ?_
      refine W_eql rfl rfl rfl ?_
      refine W_move rfl rfl ?_
      refine W_known (t := 118) false rfl hb15 ?_
      refine W_guard_no rfl rfl rfl rfl rfl ?_
      refine W_guard_no rfl rfl rfl rfl rfl ?_
      refine W_guard_no rfl rfl rfl rfl rfl ?_
      refine W_guard_no rfl rfl rfl rfl rfl ?_
      refine W_guard_no rfl rfl rfl rfl rfl ?_
      refine W_pick_f rfl rfl rfl ?_
      refine W_move rfl rfl ?_
      refine W_guard_no rfl rfl rfl rfl rfl ?_
      refine W_pick_f rfl rfl rfl ?_
      refine W_assign rfl rfl ?_
      refine W_nil ?_
      exact N_join _ ⟨rfl, F9, (Frz.le.refl _), hS12⟩ ⟨(look_bool rfl (by first | rfl | (rw [hb15]; first | done | rfl) | simp [hb15])), trivial⟩
    rintro E w14 ⟨rfl, F14, le14, hS14⟩
    refine N_code ?_
    obtain rfl := Option.some.inj H
    refine C_ret rfl rfl ?_
    exact ⟨F14, rfl, hS14.pick [] (by decide)⟩

end Go.Wk.Lf
