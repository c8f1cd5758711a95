import Derived.Test.YtahfmkjafddjhaaLfD
namespace Go.Wk.Lf
open Go.Proofs Go.RowKit
set_option linter.unusedVariables false

def cellarerref20_Vols.k1 (l2 : List Int) : Option (List Int) :=
  some l2


def cellarerref20_Vols.k3 (i9 : Int) (rec10 : ((List Int) × Int) → Option (List Int)) (l13 : List Int) : Option (List Int) :=
  rec10 (l13, wr (i9 + 1))


def cellarerref20_Vols.k4 (x0 : List Read) (l6 : List Int) (i9 : Int) (rec10 : ((List Int) × Int) → Option (List Int)) (b17 : Bool) : Option (List Int) :=
  if (!b17) then
    bd (ix x0 i9) fun x19 =>
    bd (app (α := Int) l6 [x19.loc.vol]) fun l22 =>
    cellarerref20_Vols.k3 i9 rec10 l22
  else
    cellarerref20_Vols.k3 i9 rec10 l6


def cellarerref20_Vols.l5 (x0 : List Read) (l6 : List Int) (i9 : Int) (rec10 : ((List Int) × Int) → Option (List Int)) (rec28 : (Bool × Int) → Option (List Int)) : (Bool × Int) → Option (List Int)
  | (b26, i27) =>
    if decide (i27 < (l6.length : Int)) then
      bd (only (!b26) (ix l6 i27) 0) fun x30 =>
      bd (only (!b26) (ix x0 i9) (Read.mk 0 (Loc.mk 0 0 0 0))) fun x32 =>
      rec28 ((b26 || decide (x30 = x32.loc.vol)), wr (i27 + 1))
    else
      cellarerref20_Vols.k4 x0 l6 i9 rec10 b26


def cellarerref20_Vols.l2 (x0 : List Read) (rec10 : ((List Int) × Int) → Option (List Int)) : ((List Int) × Int) → Option (List Int)
  | (l6, i9) =>
    if decide (i9 < (x0.length : Int)) then
      loop (cellarerref20_Vols.l5 x0 l6 i9 rec10) (false, 0)
    else
      cellarerref20_Vols.k1 l6

def cellarerref20_Vols (x0 : List Read) : Option (List Int) :=
  loop (cellarerref20_Vols.l2 x0) ([], 0)

theorem cellarerref20_Vols_ok {F : Frz} {w : World} {x0 : List Read} {r : (List Int)} {v0 : Value} (hA : Agree F w.heap) (h0 : SlF Read.t F v0 x0) (H : cellarerref20_Vols x0 = some r) : Ret Try.prog 18 #[v0] w fun v w' => ∃ (F' : Frz) (q0 : Value), v = q0 ∧ St [] w F F' [.row tI 3 q0 (r)] w' := by
 refine Ret_of (args := [v0]) Go.Proofs.Try.func18 rfl rfl ?_
 change C _ _ _ _ [(0, v0)] _
 have hS := St.entry hA
 dsimp only [cellarerref20_Vols] at H
 refine C_seq ?_
 refine C_region ?_
 refine W_assign rfl rfl ?_
 refine W_nil ?_
 refine N_code ?_
 refine C_seq ?_
 refine C_region ?_
 refine W_assign rfl rfl ?_
 refine W_nil ?_
 refine N_code ?_
 refine C_seq_join (fun E wq => ∃ l2 : List Int, cellarerref20_Vols.k1 l2 = some r ∧ ∃ (F1 : Frz) (u3 : Value), E = [(3, u3)] ∧ F.le F1 ∧ St [] w F F1 [.row tI 3 u3 l2] wq) ?_ ?_
 ·
  refine C_seq ?_
  refine C_region ?_
  refine W_assign rfl rfl ?_
  refine W_nil ?_
  refine N_code ?_
  refine C_block ?_
  refine C_loopM (fun (s : (List Int) × Int) E wq => ∃ (F5 : Frz) (u7 : Value), E = [(0, v0), (3, u7), (4, .int .i64 s.2)] ∧ F.le F5 ∧ St [] w F F5 [.row tI 3 u7 s.1] wq) H ?_ ?_
  ·
   have hS69 := hS.nilRow tI 3
   exact ⟨_, ⟨F, (.slice none 0 0), rfl, (Frz.le.refl _), hS69⟩, ⟨rfl, rfl, rfl, trivial⟩⟩
  ·
   rintro rec10 ⟨l6, i9⟩ E w5 hI H
   try dsimp only at hI
   obtain ⟨F5, u7, rfl, le5, hS5⟩ := hI
   dsimp only [cellarerref20_Vols.l2] at H
   refine C_seq ?_
   refine C_seq ?_
   refine C_region ?_
   refine W_move rfl rfl ?_
   refine W_move rfl rfl ?_
   refine W_lenv rfl Go.Proofs.Try.underlying23 rfl h0.ln ?_
   refine W_lss rfl rfl rfl ?_
   refine W_nil ?_
   refine N_code ?_
   refine C_cond rfl (fun hc11 => ?_) (fun hc11 => ?_)
   ·
    rw [if_t hc11] at H
    refine C_skip ?_
    refine N_code ?_
    refine C_seq_join (fun E wq => ∃ l13 : List Int, cellarerref20_Vols.k3 i9 rec10 l13 = some r ∧ ∃ (F12 : Frz) (u14 : Value), E = [(0, v0), (3, u14), (4, .int .i64 i9)] ∧ F5.le F12 ∧ St [] w F F12 [.row tI 3 u14 l13] wq) ?_ ?_
    ·
     refine C_block ?_
     refine C_seq ?_
     refine C_region ?_
     refine W_assign rfl rfl ?_
     refine W_nil ?_
     refine N_code ?_
     refine C_seq_join (fun E wq => ∃ b17 : Bool, cellarerref20_Vols.k4 x0 l6 i9 rec10 b17 = some r ∧ ∃ (F16 : Frz), E = [(0, v0), (3, u7), (4, .int .i64 i9), (5, .bool b17)] ∧ F5.le F16 ∧ St [] w F F16 [.row tI 3 u7 l6] wq) ?_ ?_
     ·
      refine C_seq ?_
      refine C_region ?_
      refine W_assign rfl rfl ?_
      refine W_nil ?_
      refine N_code ?_
      refine C_block ?_
      refine C_loopM (fun (s : Bool × Int) E wq => ∃ (F25 : Frz), E = [(0, v0), (3, u7), (4, .int .i64 i9), (5, .bool s.1), (6, .int .i64 s.2)] ∧ F5.le F25 ∧ St [] w F F25 [.row tI 3 u7 l6] wq) H ?_ ?_
      ·
       exact ⟨_, ⟨F5, rfl, (Frz.le.refl _), hS5⟩, ⟨rfl, rfl, rfl, rfl, rfl, trivial⟩⟩
      ·
       rintro rec28 ⟨b26, i27⟩ E w25 hI H
       try dsimp only at hI
       obtain ⟨F25, rfl, le25, hS25⟩ := hI
       dsimp only [cellarerref20_Vols.l5] at H
       refine C_seq ?_
       refine C_seq ?_
       refine C_region ?_
       refine W_move rfl rfl ?_
       refine W_move rfl rfl ?_
       refine W_lenv rfl Go.Proofs.Try.underlying22 rfl (hS25.rowLn (k := 0) rfl) ?_
       refine W_lss rfl rfl rfl ?_
       refine W_nil ?_
       refine N_code ?_
       refine C_cond rfl (fun hc29 => ?_) (fun hc29 => ?_)
       ·
        rw [if_t hc29] at H
        refine C_skip ?_
        refine N_code ?_
        refine C_seq ?_
        refine C_block ?_
        obtain ⟨x30, hx30, H⟩ := bd_some H
        obtain ⟨x32, hx32, H⟩ := bd_some H
        refine C_join (fun E wq => E = [(0, v0), (3, u7), (4, .int .i64 i9), (5, .bool (b26 || decide (x30 = x32.loc.vol))), (6, .int .i64 i27)] ∧ ∃ F34 : Frz, F25.le F34 ∧ St [] w F F34 [.row tI 3 u7 l6] wq) ?_ ?_
        ·
         rcases Bool.eq_false_or_eq_true b26 with hb35 | hb35
         ·
          apply C_draw 13 [[], [0], [1], [1], [2, 3, 1], [4, 1], [1], [1], [6, 7, 1], [8, 1], [9, 1], [10, 1], [5, 11, 1]] [.val (.bool b26), .val (.bool true), .val undef, .val undef, .val undef, .val undef, .val undef, .val undef, .val undef, .val undef, .val undef, .val undef, .val undef] Ty.mixed rfl rfl (by kernel_rfl) (by kernel_rfl) rfl
          ·
           refine ⟨?_, ?_, ?_, ?_, ?_, ?_, ?_, ?_, ?_, ?_, ?_, ?_, ?_, trivial⟩
           ·
            intro w36 vq36 hB36 hH36
            have hS36 := hS25.below hB36
            refine W_move rfl rfl ?_
            refine W_nil ?_
            exact N_step rfl rfl (Below.refl _ _)
           ·
            intro w37 vq37 hB37 hH37
            have hS37 := hS25.below hB37
            refine W_move rfl rfl ?_
            refine W_nil ?_
            exact N_step rfl (congrArg Value.bool hb35) (Below.refl _ _)
           ·
            intro w38 vq38 hB38 hH38
            have hS38 := hS25.below hB38
            refine W_guard_no rfl rfl rfl rfl rfl ?_
            refine W_nil ?_
            exact N_step rfl rfl (Below.refl _ _)
           ·
            intro w39 vq39 hB39 hH39
            have hS39 := hS25.below hB39
            refine W_guard_no rfl rfl rfl rfl rfl ?_
            refine W_nil ?_
            exact N_step rfl rfl (Below.refl _ _)
           ·
            intro w40 vq40 hB40 hH40
            have hS40 := hS25.below hB40
            refine W_guard_no rfl rfl rfl rfl rfl ?_
            refine W_nil ?_
            exact N_step rfl rfl (Below.refl _ _)
           ·
            intro w41 vq41 hB41 hH41
            have hS41 := hS25.below hB41
            refine W_guard_no rfl rfl rfl rfl rfl ?_
            refine W_nil ?_
            exact N_step rfl rfl (Below.refl _ _)
           ·
            intro w42 vq42 hB42 hH42
            have hS42 := hS25.below hB42
            refine W_guard_no rfl rfl rfl rfl rfl ?_
            refine W_nil ?_
            exact N_step rfl rfl (Below.refl _ _)
           ·
            intro w43 vq43 hB43 hH43
            have hS43 := hS25.below hB43
            refine W_guard_no rfl rfl rfl rfl rfl ?_
            refine W_nil ?_
            exact N_step rfl rfl (Below.refl _ _)
           ·
            intro w44 vq44 hB44 hH44
            have hS44 := hS25.below hB44
            refine W_guard_no rfl rfl rfl rfl rfl ?_
            refine W_nil ?_
            exact N_step rfl rfl (Below.refl _ _)
           ·
            intro w45 vq45 hB45 hH45
            have hS45 := hS25.below hB45
            refine W_guard_no rfl rfl rfl rfl rfl ?_
            refine W_nil ?_
            exact N_step rfl rfl (Below.refl _ _)
           ·
            intro w46 vq46 hB46 hH46
            have hS46 := hS25.below hB46
            refine W_guard_no rfl rfl rfl rfl rfl ?_
            refine W_nil ?_
            exact N_step rfl rfl (Below.refl _ _)
           ·
            intro w47 vq47 hB47 hH47
            have hS47 := hS25.below hB47
            refine W_guard_no rfl rfl rfl rfl rfl ?_
            refine W_nil ?_
            exact N_step rfl rfl (Below.refl _ _)
           ·
            intro w48 vq48 hB48 hH48
            have hS48 := hS25.below hB48
            refine W_guard_no rfl rfl rfl rfl rfl ?_
            refine W_nil ?_
            exact N_step rfl rfl (Below.refl _ _)
          intro w49 vq49 hB49 hH49
          have hS49 := hS25.below hB49
          refine W_pick_t rfl rfl rfl ?_
          refine W_assign rfl rfl ?_
          refine W_nil ?_
          exact N_join _ ⟨rfl, F25, (Frz.le.refl _), hS49⟩ ⟨rfl, rfl, rfl, (look_bool rfl (by first | rfl | (rw [hb35]; first | done | rfl) | simp [hb35])), rfl, trivial⟩
         ·
          have hy50 := hx30
          rw [only_t (by first | rfl | (rw [hb35]; first | done | rfl) | simp [hb35])] at hy50
          obtain ⟨hp51, hy51⟩ := ix_some hy50
          obtain ⟨cs51, hr51, he51⟩ := hS25.rowAt (k := 0) rfl hy51
          obtain rfl := hr51
          replace he51 : El _ _ 1 _ _ := he51
          have hy52 := hx32
          rw [only_t (by first | rfl | (rw [hb35]; first | done | rfl) | simp [hb35])] at hy52
          obtain ⟨hp53, hy53⟩ := ix_some hy52
          obtain ⟨cs53, hr53, he53⟩ := (h0.mono (le5.trans le25)).at_ hy53
          obtain rfl := hr53
          replace he53 : Elf _ _ 5 _ _ := he53
          apply C_draw 13 [[], [0], [1], [1], [2, 3, 1], [4, 1], [1], [1], [6, 7, 1], [8, 1], [9, 1], [10, 1], [5, 11, 1]] [.val (.bool b26), .val (.bool false), .val (u7), .val (.int .i64 i27), .val (elp u7 (i27.toNat * 1)), .val (.int .i64 x30), .val (v0), .val (.int .i64 i9), .val (elp v0 (i9.toNat * 5)), .val (elp v0 ((i9.toNat * 5) + 1)), .val (elp v0 (((i9.toNat * 5) + 1) + 0)), .val (.int .i64 x32.loc.vol), .val (.bool (decide (x30 = x32.loc.vol)))] Ty.mixed rfl rfl (by kernel_rfl) (by kernel_rfl) rfl
          ·
           refine ⟨?_, ?_, ?_, ?_, ?_, ?_, ?_, ?_, ?_, ?_, ?_, ?_, ?_, trivial⟩
           ·
            intro w54 vq54 hB54 hH54
            have hS54 := hS25.below hB54
            refine W_move rfl rfl ?_
            refine W_nil ?_
            exact N_step rfl rfl (Below.refl _ _)
           ·
            intro w55 vq55 hB55 hH55
            have hS55 := hS25.below hB55
            refine W_move rfl rfl ?_
            refine W_nil ?_
            exact N_step rfl (congrArg Value.bool hb35) (Below.refl _ _)
           ·
            intro w56 vq56 hB56 hH56
            have hS56 := hS25.below hB56
            refine W_guard_yes rfl ?_
            refine W_move rfl rfl ?_
            refine W_nil ?_
            exact N_step rfl rfl (Below.refl _ _)
           ·
            intro w57 vq57 hB57 hH57
            have hS57 := hS25.below hB57
            refine W_guard_yes rfl ?_
            refine W_move rfl rfl ?_
            refine W_nil ?_
            exact N_step rfl rfl (Below.refl _ _)
           ·
            intro w58 vq58 hB58 hH58
            have hS58 := hS25.below hB58
            refine W_guard_yes rfl ?_
            refine W_ix rfl Go.Proofs.Try.underlying22 Ty.cells3 Ty.info3 rfl rfl (he51.below hB58) hp51 rfl ?_
            refine W_nil ?_
            exact N_step rfl rfl (Below.refl _ _)
           ·
            intro w59 vq59 hB59 hH59
            have hS59 := hS25.below hB59
            refine W_guard_yes rfl ?_
            refine W_ld1 0 rfl Ty.cell3 rfl (he51.below hB59) (by omega) rfl ?_
            refine W_nil ?_
            exact N_step rfl rfl (Below.refl _ _)
           ·
            intro w60 vq60 hB60 hH60
            have hS60 := hS25.below hB60
            refine W_guard_yes rfl ?_
            refine W_move rfl rfl ?_
            refine W_nil ?_
            exact N_step rfl rfl (Below.refl _ _)
           ·
            intro w61 vq61 hB61 hH61
            have hS61 := hS25.below hB61
            refine W_guard_yes rfl ?_
            refine W_move rfl rfl ?_
            refine W_nil ?_
            exact N_step rfl rfl (Below.refl _ _)
           ·
            intro w62 vq62 hB62 hH62
            have hS62 := hS25.below hB62
            refine W_guard_yes rfl ?_
            refine W_ix rfl Go.Proofs.Try.underlying23 Ty.cells39 Ty.info39 rfl rfl (he53.el hS62.agree) hp53 rfl ?_
            refine W_nil ?_
            exact N_step rfl rfl (Below.refl _ _)
           ·
            intro w63 vq63 hB63 hH63
            have hS63 := hS25.below hB63
            refine W_guard_yes rfl ?_
            refine W_fld 1 rfl Ty.field39_1 rfl (he53.el hS63.agree) ?_
            refine W_nil ?_
            exact N_step rfl rfl (Below.refl _ _)
           ·
            intro w64 vq64 hB64 hH64
            have hS64 := hS25.below hB64
            refine W_guard_yes rfl ?_
            refine W_fld 0 rfl Ty.field37_0 rfl (he53.el hS64.agree) ?_
            refine W_nil ?_
            exact N_step rfl rfl (Below.refl _ _)
           ·
            intro w65 vq65 hB65 hH65
            have hS65 := hS25.below hB65
            refine W_guard_yes rfl ?_
            refine W_ld1 1 rfl Ty.cell3 rfl (he53.el hS65.agree) (by omega) rfl ?_
            refine W_nil ?_
            exact N_step rfl rfl (Below.refl _ _)
           ·
            intro w66 vq66 hB66 hH66
            have hS66 := hS25.below hB66
            refine W_guard_yes rfl ?_
            refine W_eql rfl rfl rfl ?_
            refine W_nil ?_
            exact N_step rfl rfl (Below.refl _ _)
          intro w67 vq67 hB67 hH67
          have hS67 := hS25.below hB67
          refine W_pick_f rfl rfl rfl ?_
          refine W_assign rfl rfl ?_
          refine W_nil ?_
          exact N_join _ ⟨rfl, F25, (Frz.le.refl _), hS67⟩ ⟨rfl, rfl, rfl, (look_bool rfl (by first | rfl | (rw [hb35]; first | done | rfl) | simp [hb35])), rfl, trivial⟩
        rintro E w34 ⟨rfl, F34, le34, hS34⟩
        refine N_block ?_
        refine N_code ?_
        refine C_region ?_
        refine W_move rfl rfl ?_
        refine W_add rfl rfl rfl rfl ?_
        refine W_assign rfl rfl ?_
        refine W_nil ?_
        exact N_againM ((b26 || decide (x30 = x32.loc.vol)), wr (i27 + 1)) _ H ⟨F34, rfl, (le25.trans le34), hS34⟩ ⟨rfl, rfl, rfl, rfl, rfl, trivial⟩
       ·
        rw [if_f hc29] at H
        refine C_exit _ rfl ?_
        exact N_join _ ⟨b26, H, ⟨F25, rfl, le25, hS25⟩⟩ ⟨rfl, rfl, rfl, rfl, trivial⟩
     ·
      rintro E w16 ⟨b17, H, F16, rfl, le16, hS16⟩
      dsimp only [cellarerref20_Vols.k4] at H
      refine C_seq ?_
      refine C_region ?_
      refine W_move rfl rfl ?_
      refine W_not rfl rfl ?_
      refine W_nil ?_
      refine N_code ?_
      refine C_cond rfl (fun hc18 => ?_) (fun hc18 => ?_)
      ·
       rw [if_t hc18] at H
       obtain ⟨x19, hx19, H⟩ := bd_some H
       obtain ⟨l22, hl22, H⟩ := bd_some H
       refine C_region ?_
       refine W_move rfl rfl ?_
       refine W_move rfl rfl ?_
       refine W_move rfl rfl ?_
       obtain ⟨hp24, hy24⟩ := ix_some hx19
       obtain ⟨cs24, hr24, he24⟩ := (h0.mono (le5.trans le16)).at_ hy24
       obtain rfl := hr24
       replace he24 : Elf _ _ 5 _ _ := he24
       refine W_ix rfl Go.Proofs.Try.underlying23 Ty.cells39 Ty.info39 rfl rfl (he24.el hS16.agree) hp24 rfl ?_
       refine W_fld 1 rfl Ty.field39_1 rfl (he24.el hS16.agree) ?_
       refine W_fld 0 rfl Ty.field37_0 rfl (he24.el hS16.agree) ?_
       refine W_ld1 1 rfl Ty.cell3 rfl (he24.el hS16.agree) (by omega) rfl ?_
       refine W_bs (t := tI) [[.int .i64 x19.loc.vol]] [x19.loc.vol] rfl Go.Proofs.Try.underlying22 Ty.cells3 rfl rfl Ty.zero3 rfl rfl ⟨rfl, trivial⟩ rfl rfl hS16 ?_
       intro u21 w21 hS21
       refine W_appM 1 rfl Go.Proofs.Try.underlying22 Ty.row3 rfl rfl rfl rfl rfl hS21 rfl (hS21.rowSrc (j := 0) rfl) hl22 ?_
       intro v23 w23 hS23
       refine W_assign rfl rfl ?_
       refine W_nil ?_
       refine N_block ?_
       exact N_join _ ⟨l22, H, ⟨F16, v23, rfl, le16, hS23.pick [1] (by decide)⟩⟩ ⟨rfl, rfl, rfl, trivial⟩
      ·
       rw [if_f hc18] at H
       refine C_skip ?_
       refine N_block ?_
       exact N_join _ ⟨l6, H, ⟨F16, u7, rfl, le16, hS16⟩⟩ ⟨rfl, rfl, rfl, trivial⟩
    ·
     rintro E w12 ⟨l13, H, F12, u14, rfl, le12, hS12⟩
     dsimp only [cellarerref20_Vols.k3] at H
     refine C_region ?_
     refine W_move rfl rfl ?_
     refine W_add rfl rfl rfl rfl ?_
     refine W_assign rfl rfl ?_
     refine W_nil ?_
     exact N_againM (l13, wr (i9 + 1)) _ H ⟨F12, u14, rfl, (le5.trans le12), hS12⟩ ⟨rfl, rfl, rfl, trivial⟩
   ·
    rw [if_f hc11] at H
    refine C_exit _ rfl ?_
    exact N_join _ ⟨l6, H, ⟨F5, u7, rfl, le5, hS5⟩⟩ ⟨rfl, trivial⟩
 ·
  rintro E w1 ⟨l2, H, F1, u3, rfl, le1, hS1⟩
  dsimp only [cellarerref20_Vols.k1] at H
  refine C_seq ?_
  refine C_region ?_
  refine W_move rfl rfl ?_
  refine W_assign rfl rfl ?_
  refine W_nil ?_
  refine N_code ?_
  obtain rfl := Option.some.inj H
  refine C_ret rfl rfl ?_
  exact ⟨F1, u3, rfl, hS1⟩

def cellarerlaw21_PlanExact.k3 : Option Bool :=
  bd (cellarerlaw21_wakes) fun r74 =>
  some r74


def cellarerlaw21_PlanExact.l4 (x0 : List Want) (l28 : List Want) (rec78 : Int → Option Bool) : Int → Option Bool
  | i77 =>
    if decide (i77 < (x0.length : Int)) then
      bd (ix l28 i77) fun x80 =>
      bd (ix x0 i77) fun x82 =>
      bd (cellarerkeep_Locs x80.locs x82.locs) fun r84 =>
      if (!r84) then
        some false
      else
        rec78 (wr (i77 + 1))
    else
      cellarerlaw21_PlanExact.k3


def cellarerlaw21_PlanExact.k2 (x0 : List Want) (x1 : List Loc) (r7 : (List Loc)) (l28 : List Want) : Option Bool :=
  bd (plan_Order l28) fun r31 =>
  bd (cellarerref20_Order x0) fun r34 =>
  bd (cellarerkeep_Reads r31.1 r34.1) fun r38 =>
  bd (only (!(!r38)) (cellarerkeep_Ints r31.2 r34.2) false) fun r39 =>
  bd (only (!((!r38) || (!r39))) (plan_Vols r31.1) []) fun r40 =>
  bd (only (!((!r38) || (!r39))) (cellarerref20_Vols r34.1) []) fun r41 =>
  bd (only (!((!r38) || (!r39))) (cellarerkeep_Ints r40 r41) false) fun r42 =>
  bd (only (!(((!r38) || (!r39)) || (!r42))) (cellarerkeep_Locs r7 x1) false) fun r43 =>
  if ((((!r38) || (!r39)) || (!r42)) || (!r43)) then
    some false
  else
    loop (cellarerlaw21_PlanExact.l4 x0 l28) 0


def cellarerlaw21_PlanExact.l5 (x0 : List Want) (x1 : List Loc) (r7 : (List Loc)) (rec106 : ((List Want) × Int) → Option Bool) : ((List Want) × Int) → Option Bool
  | (l102, i105) =>
    if decide (i105 < (x0.length : Int)) then
      bd (ix x0 i105) fun x108 =>
      bd (cellarerkeep_TwinLocs x108.locs) fun r110 =>
      bd (app (α := Want) l102 [(Want.mk x108.id r110)]) fun l114 =>
      rec106 (l114, wr (i105 + 1))
    else
      cellarerlaw21_PlanExact.k2 x0 x1 r7 l102


def cellarerlaw21_PlanExact.k1 (x0 : List Want) (x1 : List Loc) (r7 : (List Loc)) : Option Bool :=
  bd (plan_Sort r7) fun r10 =>
  bd (cellarerref20_Sort x1) fun r13 =>
  bd (cellarerkeep_Locs r10 r13) fun r14 =>
  bd (only (!(!r14)) (cellarerkeep_Locs r7 x1) false) fun r15 =>
  if ((!r14) || (!r15)) then
    some false
  else
    bd (cellarerkeep_SpoilLocs r10) fun r25 =>
    loop (cellarerlaw21_PlanExact.l5 x0 x1 r7) ([], 0)


def cellarerlaw21_PlanExact.l6 (x0 : List Want) (x1 : List Loc) (r7 : (List Loc)) (rec141 : Int → Option Bool) : Int → Option Bool
  | i140 =>
    if decide (wr (i140 + 1) < (x1.length : Int)) then
      bd (ix x1 i140) fun x143 =>
      bd (ix x1 (wr (i140 + 1))) fun x145 =>
      bd (plan_Ahead x143 x145) fun r147 =>
      bd (cellarerref18_Ahead x143 x145) fun r148 =>
      if (r147 != r148) then
        some false
      else
        rec141 (wr (i140 + 1))
    else
      cellarerlaw21_PlanExact.k1 x0 x1 r7

def cellarerlaw21_PlanExact (x0 : List Want) (x1 : List Loc) : Option Bool :=
  bd (cellarerlaw21_Heavy x0) fun r1 =>
  if (r1 || decide (60 < (x1.length : Int))) then
    some true
  else
    bd (cellarerkeep_TwinLocs x1) fun r7 =>
    loop (cellarerlaw21_PlanExact.l6 x0 x1 r7) 0

theorem cellarerlaw21_PlanExact_ok {F : Frz} {w : World} {x0 : List Want} {x1 : List Loc} {r : Bool} {v0 : Value} {v1 : Value} (hA : Agree F w.heap) (h0 : SlF Want.t F v0 x0) (h1 : SlF Loc.t F v1 x1) (H : cellarerlaw21_PlanExact x0 x1 = some r) : Ret Try.prog 12 #[v0, v1] w fun v w' => ∃ (F' : Frz), v = .bool r ∧ St [] w F F' [] w' := by
 refine Ret_of (args := [v0, v1]) Go.Proofs.Try.func12 rfl rfl ?_
 change C _ _ _ _ [(0, v0), (1, v1)] _
 have hS := St.entry hA
 dsimp only [cellarerlaw21_PlanExact] at H
 refine C_seq ?_
 refine C_region ?_
 refine W_assign rfl rfl ?_
 refine W_nil ?_
 refine N_code ?_
 refine C_seq ?_
 refine C_seq ?_
 obtain ⟨r1, hr1, H⟩ := bd_some H
 refine C_join (fun E wq => E = [(0, v0), (1, v1), (21, .bool (r1 || decide (60 < (x1.length : Int))))] ∧ ∃ F2 : Frz, F.le F2 ∧ St [] w F F2 [] wq) ?_ ?_
 ·
  rcases Bool.eq_false_or_eq_true r1 with hb3 | hb3
  ·
   refine C_region ?_
   refine W_move rfl rfl ?_
   refine W_call rfl Ty.named26 rfl (cellarerlaw21_Heavy_ok hS.agree h0 hr1) ?_
   rintro v4 w4 ⟨Fr1, rfl, hT4⟩
   have hS4 := hS.lent hT4
   refine W_move rfl rfl ?_
   refine W_known (t := 17) true rfl hb3 ?_
   refine W_guard_no rfl rfl rfl rfl rfl ?_
   refine W_guard_no rfl rfl rfl rfl rfl ?_
   refine W_guard_no rfl rfl rfl rfl rfl ?_
   refine W_pick_t rfl rfl rfl ?_
   refine W_nil ?_
   exact N_join _ ⟨rfl, F, (Frz.le.refl _), hS4⟩ ⟨rfl, rfl, (look_bool rfl (by first | rfl | (rw [hb3]; first | done | rfl) | simp [hb3])), trivial⟩
  ·
   refine C_region ?_
   refine W_move rfl rfl ?_
   refine W_call rfl Ty.named26 rfl (cellarerlaw21_Heavy_ok hS.agree h0 hr1) ?_
   rintro v5 w5 ⟨Fr1, rfl, hT5⟩
   have hS5 := hS.lent hT5
   refine W_move rfl rfl ?_
   refine W_known (t := 17) false rfl hb3 ?_
   refine W_guard_yes rfl ?_
   refine W_move rfl rfl ?_
   refine W_guard_yes rfl ?_
   refine W_lenv rfl Go.Proofs.Try.underlying49 rfl h1.ln ?_
   refine W_guard_yes rfl ?_
   refine W_gtr rfl rfl rfl ?_
   refine W_pick_f rfl rfl rfl ?_
   refine W_nil ?_
   exact N_join _ ⟨rfl, F, (Frz.le.refl _), hS5⟩ ⟨rfl, rfl, (look_bool rfl (by first | rfl | (rw [hb3]; first | done | rfl) | simp [hb3])), trivial⟩
 rintro E w2 ⟨rfl, F2, le2, hS2⟩
 refine N_code ?_
 refine C_cond rfl (fun hc6 => ?_) (fun hc6 => ?_)
 ·
  rw [if_t hc6] at H
  refine C_seq ?_
  refine C_region ?_
  refine W_assign rfl rfl ?_
  refine W_nil ?_
  refine N_code ?_
  obtain rfl := Option.some.inj H
  refine C_ret rfl rfl ?_
  exact ⟨F2, rfl, hS2⟩
 ·
  rw [if_f hc6] at H
  refine C_skip ?_
  refine N_code ?_
  refine C_seq ?_
  obtain ⟨r7, hr7, H⟩ := bd_some H
  refine C_region ?_
  refine W_move rfl rfl ?_
  refine W_call rfl Ty.named33 rfl (cellarerkeep_TwinLocs_ok hS2.agree (h1.mono le2) hr7) ?_
  rintro ur7_0 w8 ⟨Fr7, _, rfl, hT8⟩
  have hS8 := hS2.call hT8
  have ler7 := hT8.ext
  refine W_assign rfl rfl ?_
  refine W_nil ?_
  refine N_code ?_
  refine C_seq_join (fun E wq => cellarerlaw21_PlanExact.k1 x0 x1 r7 = some r ∧ ∃ (F9 : Frz), E = [(0, v0), (1, v1), (5, ur7_0)] ∧ Fr7.le F9 ∧ St [] w F F9 [.row Loc.t 37 ur7_0 r7] wq) ?_ ?_
  ·
   refine C_seq ?_
   refine C_region ?_
   refine W_assign rfl rfl ?_
   refine W_nil ?_
   refine N_code ?_
   refine C_block ?_
   refine C_loopM (fun (s : Int) E wq => ∃ (F139 : Frz), E = [(0, v0), (1, v1), (5, ur7_0), (6, .int .i64 s)] ∧ Fr7.le F139 ∧ St [] w F F139 [.row Loc.t 37 ur7_0 r7] wq) H ?_ ?_
   ·
    exact ⟨_, ⟨Fr7, rfl, (Frz.le.refl _), hS8⟩, ⟨rfl, rfl, rfl, rfl, trivial⟩⟩
   ·
    rintro rec141 i140 E w139 hI H
    try dsimp only at hI
    obtain ⟨F139, rfl, le139, hS139⟩ := hI
    dsimp only [cellarerlaw21_PlanExact.l6] at H
    refine C_seq ?_
    refine C_seq ?_
    refine C_region ?_
    refine W_move rfl rfl ?_
    refine W_add rfl rfl rfl rfl ?_
    refine W_move rfl rfl ?_
    refine W_lenv rfl Go.Proofs.Try.underlying49 rfl h1.ln ?_
    refine W_lss rfl rfl rfl ?_
    refine W_nil ?_
    refine N_code ?_
    refine C_cond rfl (fun hc142 => ?_) (fun hc142 => ?_)
    ·
     rw [if_t hc142] at H
     refine C_skip ?_
     refine N_code ?_
     refine C_seq ?_
     refine C_block ?_
     refine C_seq ?_
     obtain ⟨x143, hx143, H⟩ := bd_some H
     obtain ⟨x145, hx145, H⟩ := bd_some H
     obtain ⟨r147, hr147, H⟩ := bd_some H
     obtain ⟨r148, hr148, H⟩ := bd_some H
     obtain ⟨hp149, hy149⟩ := ix_some hx143
     obtain ⟨cs149, hr149, he149⟩ := (h1.mono ((le2.trans ler7).trans le139)).at_ hy149
     obtain rfl := hr149
     replace he149 : Elf _ _ 4 _ _ := he149
     obtain ⟨hp150, hy150⟩ := ix_some hx145
     obtain ⟨cs150, hr150, he150⟩ := (h1.mono ((le2.trans ler7).trans le139)).at_ hy150
     obtain rfl := hr150
     replace he150 : Elf _ _ 4 _ _ := he150
     apply C_draw 20 [[], [], [0, 1], [2], [], [], [5], [4, 6], [7], [3, 8], [], [], [10, 11], [12], [], [], [15], [14, 16], [17], [13, 18]] [.val (v1), .val (.int .i64 i140), .val (elp v1 (i140.toNat * 4)), .val (.agg (Loc.cells x143).toArray), .val (v1), .val (.int .i64 i140), .val (.int .i64 (wr (i140 + 1))), .val (elp v1 ((wr (i140 + 1)).toNat * 4)), .val (.agg (Loc.cells x145).toArray), .val (.bool r147), .val (v1), .val (.int .i64 i140), .val (elp v1 (i140.toNat * 4)), .val (.agg (Loc.cells x143).toArray), .val (v1), .val (.int .i64 i140), .val (.int .i64 (wr (i140 + 1))), .val (elp v1 ((wr (i140 + 1)).toNat * 4)), .val (.agg (Loc.cells x145).toArray), .val (.bool r148)] Ty.mixed rfl rfl (by kernel_rfl) (by kernel_rfl) rfl
     ·
      refine ⟨?_, ?_, ?_, ?_, ?_, ?_, ?_, ?_, ?_, ?_, ?_, ?_, ?_, ?_, ?_, ?_, ?_, ?_, ?_, ?_, trivial⟩
      ·
       intro w151 vq151 hB151 hH151
       have hS151 := hS139.below hB151
       refine W_move rfl rfl ?_
       refine W_nil ?_
       exact N_step rfl rfl (Below.refl _ _)
      ·
       intro w152 vq152 hB152 hH152
       have hS152 := hS139.below hB152
       refine W_move rfl rfl ?_
       refine W_nil ?_
       exact N_step rfl rfl (Below.refl _ _)
      ·
       intro w153 vq153 hB153 hH153
       have hS153 := hS139.below hB153
       refine W_ix rfl Go.Proofs.Try.underlying49 Ty.cells37 Ty.info37 rfl rfl (he149.el hS153.agree) hp149 rfl ?_
       refine W_nil ?_
       exact N_step rfl rfl (Below.refl _ _)
      ·
       intro w154 vq154 hB154 hH154
       have hS154 := hS139.below hB154
       refine W_ldg 0 ((Loc.cells x143)) rfl Ty.agg37 Ty.size37 rfl (he149.el hS154.agree) (by omega) (fun q u h => sub_at (post := []) rfl h) ?_
       refine W_nil ?_
       exact N_step rfl rfl (Below.refl _ _)
      ·
       intro w155 vq155 hB155 hH155
       have hS155 := hS139.below hB155
       refine W_move rfl rfl ?_
       refine W_nil ?_
       exact N_step rfl rfl (Below.refl _ _)
      ·
       intro w156 vq156 hB156 hH156
       have hS156 := hS139.below hB156
       refine W_move rfl rfl ?_
       refine W_nil ?_
       exact N_step rfl rfl (Below.refl _ _)
      ·
       intro w157 vq157 hB157 hH157
       have hS157 := hS139.below hB157
       refine W_add rfl rfl rfl rfl ?_
       refine W_nil ?_
       exact N_step rfl rfl (Below.refl _ _)
      ·
       intro w158 vq158 hB158 hH158
       have hS158 := hS139.below hB158
       refine W_ix rfl Go.Proofs.Try.underlying49 Ty.cells37 Ty.info37 rfl rfl (he150.el hS158.agree) hp150 rfl ?_
       refine W_nil ?_
       exact N_step rfl rfl (Below.refl _ _)
      ·
       intro w159 vq159 hB159 hH159
       have hS159 := hS139.below hB159
       refine W_ldg 0 ((Loc.cells x145)) rfl Ty.agg37 Ty.size37 rfl (he150.el hS159.agree) (by omega) (fun q u h => sub_at (post := []) rfl h) ?_
       refine W_nil ?_
       exact N_step rfl rfl (Below.refl _ _)
      ·
       intro w160 vq160 hB160 hH160
       have hS160 := hS139.below hB160
       refine W_call rfl Ty.named31 rfl (plan_Ahead_ok hS160.agree hr147) ?_
       rintro v161 w161 ⟨Fr147, rfl, hT161⟩
       have hS161 := hS160.lent hT161
       refine W_nil ?_
       exact N_step rfl rfl hT161.below0
      ·
       intro w162 vq162 hB162 hH162
       have hS162 := hS139.below hB162
       refine W_move rfl rfl ?_
       refine W_nil ?_
       exact N_step rfl rfl (Below.refl _ _)
      ·
       intro w163 vq163 hB163 hH163
       have hS163 := hS139.below hB163
       refine W_move rfl rfl ?_
       refine W_nil ?_
       exact N_step rfl rfl (Below.refl _ _)
      ·
       intro w164 vq164 hB164 hH164
       have hS164 := hS139.below hB164
       refine W_ix rfl Go.Proofs.Try.underlying49 Ty.cells37 Ty.info37 rfl rfl (he149.el hS164.agree) hp149 rfl ?_
       refine W_nil ?_
       exact N_step rfl rfl (Below.refl _ _)
      ·
       intro w165 vq165 hB165 hH165
       have hS165 := hS139.below hB165
       refine W_ldg 0 ((Loc.cells x143)) rfl Ty.agg37 Ty.size37 rfl (he149.el hS165.agree) (by omega) (fun q u h => sub_at (post := []) rfl h) ?_
       refine W_nil ?_
       exact N_step rfl rfl (Below.refl _ _)
      ·
       intro w166 vq166 hB166 hH166
       have hS166 := hS139.below hB166
       refine W_move rfl rfl ?_
       refine W_nil ?_
       exact N_step rfl rfl (Below.refl _ _)
      ·
       intro w167 vq167 hB167 hH167
       have hS167 := hS139.below hB167
       refine W_move rfl rfl ?_
       refine W_nil ?_
       exact N_step rfl rfl (Below.refl _ _)
      ·
       intro w168 vq168 hB168 hH168
       have hS168 := hS139.below hB168
       refine W_add rfl rfl rfl rfl ?_
       refine W_nil ?_
       exact N_step rfl rfl (Below.refl _ _)
      ·
       intro w169 vq169 hB169 hH169
       have hS169 := hS139.below hB169
       refine W_ix rfl Go.Proofs.Try.underlying49 Ty.cells37 Ty.info37 rfl rfl (he150.el hS169.agree) hp150 rfl ?_
       refine W_nil ?_
       exact N_step rfl rfl (Below.refl _ _)
      ·
       intro w170 vq170 hB170 hH170
       have hS170 := hS139.below hB170
       refine W_ldg 0 ((Loc.cells x145)) rfl Ty.agg37 Ty.size37 rfl (he150.el hS170.agree) (by omega) (fun q u h => sub_at (post := []) rfl h) ?_
       refine W_nil ?_
       exact N_step rfl rfl (Below.refl _ _)
      ·
       intro w171 vq171 hB171 hH171
       have hS171 := hS139.below hB171
       refine W_call rfl Ty.named34 rfl (cellarerref18_Ahead_ok hS171.agree hr148) ?_
       rintro v172 w172 ⟨Fr148, rfl, hT172⟩
       have hS172 := hS171.lent hT172
       refine W_nil ?_
       exact N_step rfl rfl hT172.below0
     intro w173 vq173 hB173 hH173
     have hS173 := hS139.below hB173
     refine W_neqb rfl Go.Proofs.Try.underlying4 rfl rfl ?_
     refine W_nil ?_
     refine N_code ?_
     refine C_cond rfl (fun hc174 => ?_) (fun hc174 => ?_)
     ·
      rw [if_t hc174] at H
      refine C_seq ?_
      refine C_region ?_
      refine W_assign rfl rfl ?_
      refine W_nil ?_
      refine N_code ?_
      obtain rfl := Option.some.inj H
      refine C_ret rfl rfl ?_
      exact ⟨F139, rfl, hS173.pick [] (by decide)⟩
     ·
      rw [if_f hc174] at H
      refine C_skip ?_
      refine N_block ?_
      refine N_code ?_
      refine C_region ?_
      refine W_move rfl rfl ?_
      refine W_add rfl rfl rfl rfl ?_
      refine W_assign rfl rfl ?_
      refine W_nil ?_
      exact N_againM (wr (i140 + 1)) _ H ⟨F139, rfl, le139, hS173⟩ ⟨rfl, rfl, rfl, rfl, trivial⟩
    ·
     rw [if_f hc142] at H
     refine C_exit _ rfl ?_
     exact N_join _ ⟨H, ⟨F139, rfl, le139, hS139⟩⟩ ⟨rfl, rfl, rfl, trivial⟩
  ·
   rintro E w9 ⟨H, F9, rfl, le9, hS9⟩
   dsimp only [cellarerlaw21_PlanExact.k1] at H
   refine C_seq ?_
   obtain ⟨r10, hr10, H⟩ := bd_some H
   refine C_region ?_
   refine W_move rfl rfl ?_
   obtain ⟨F11, le11, hf11, hS11⟩ := hS9.freeze 0 [] rfl (by decide) (by decide)
   refine W_call rfl Ty.named29 rfl (plan_Sort_ok hS11.agree hf11 hr10) ?_
   rintro ur10_0 w12 ⟨Fr10, _, rfl, hT12⟩
   have hS12 := hS11.call hT12
   have ler10 := hT12.ext
   refine W_assign rfl rfl ?_
   refine W_nil ?_
   refine N_code ?_
   refine C_seq ?_
   refine C_seq ?_
   obtain ⟨r13, hr13, H⟩ := bd_some H
   obtain ⟨r14, hr14, H⟩ := bd_some H
   obtain ⟨r15, hr15, H⟩ := bd_some H
   refine C_join (fun E wq => E = [(0, v0), (1, v1), (5, ur7_0), (7, ur10_0), (64, .bool ((!r14) || (!r15)))] ∧ ∃ F16 : Frz, Fr10.le F16 ∧ St [] w F F16 [.row Loc.t 37 ur10_0 r10] wq) ?_ ?_
   ·
    rcases Bool.eq_false_or_eq_true (!r14) with hb17 | hb17
    ·
     refine C_region ?_
     refine W_move rfl rfl ?_
     refine W_move rfl rfl ?_
     refine W_call rfl Ty.named35 rfl (cellarerref20_Sort_ok hS12.agree (h1.mono ((((le2.trans ler7).trans le9).trans le11).trans ler10)) hr13) ?_
     rintro ur13_0 w18 ⟨Fr13, _, rfl, hT18⟩
     have hS18 := hS12.call hT18
     have ler13 := hT18.ext
     refine W_call rfl Ty.named28 rfl (cellarerkeep_Locs_ok (now_agree _) (hS18.rowNow (k := 1) rfl) (hS18.rowNow (k := 0) rfl) hr14) ?_
     rintro v19 w19 ⟨Fr14, rfl, hT19⟩
     have hS19 := hS18.lent hT19
     refine W_not rfl rfl ?_
     refine W_move rfl rfl ?_
     refine W_known (t := 59) true rfl hb17 ?_
     refine W_guard_no rfl rfl rfl rfl rfl ?_
     refine W_guard_no rfl rfl rfl rfl rfl ?_
     refine W_guard_no rfl rfl rfl rfl rfl ?_
     refine W_guard_no rfl rfl rfl rfl rfl ?_
     refine W_pick_t rfl rfl rfl ?_
     refine W_nil ?_
     exact N_join _ ⟨rfl, Fr13, ler13, hS19.pick [1] (by decide)⟩ ⟨rfl, rfl, rfl, rfl, (look_bool rfl (by first | rfl | (rw [hb17]; first | done | rfl) | simp [hb17])), trivial⟩
    ·
     refine C_region ?_
     refine W_move rfl rfl ?_
     refine W_move rfl rfl ?_
     refine W_call rfl Ty.named35 rfl (cellarerref20_Sort_ok hS12.agree (h1.mono ((((le2.trans ler7).trans le9).trans le11).trans ler10)) hr13) ?_
     rintro ur13_0 w20 ⟨Fr13, _, rfl, hT20⟩
     have hS20 := hS12.call hT20
     have ler13 := hT20.ext
     refine W_call rfl Ty.named28 rfl (cellarerkeep_Locs_ok (now_agree _) (hS20.rowNow (k := 1) rfl) (hS20.rowNow (k := 0) rfl) hr14) ?_
     rintro v21 w21 ⟨Fr14, rfl, hT21⟩
     have hS21 := hS20.lent hT21
     refine W_not rfl rfl ?_
     refine W_move rfl rfl ?_
     refine W_known (t := 59) false rfl hb17 ?_
     refine W_guard_yes rfl ?_
     refine W_move rfl rfl ?_
     refine W_guard_yes rfl ?_
     refine W_move rfl rfl ?_
     refine W_guard_yes rfl ?_
     have hy22 := hr15
     rw [only_t (by first | rfl | (rw [hb17]; first | done | rfl) | simp [hb17])] at hy22
     refine W_call rfl Ty.named28 rfl (cellarerkeep_Locs_ok hS21.agree (hf11.mono (ler10.trans ler13)) (h1.mono (((((le2.trans ler7).trans le9).trans le11).trans ler10).trans ler13)) hy22) ?_
     rintro v23 w23 ⟨Fr15, rfl, hT23⟩
     have hS23 := hS21.lent hT23
     refine W_guard_yes rfl ?_
     refine W_not rfl rfl ?_
     refine W_pick_f rfl rfl rfl ?_
     refine W_nil ?_
     exact N_join _ ⟨rfl, Fr13, ler13, hS23.pick [1] (by decide)⟩ ⟨rfl, rfl, rfl, rfl, (look_bool rfl (by first | rfl | (rw [hb17]; first | done | rfl) | simp [hb17])), trivial⟩
   rintro E w16 ⟨rfl, F16, le16, hS16⟩
   refine N_code ?_
   refine C_cond rfl (fun hc24 => ?_) (fun hc24 => ?_)
   ·
    rw [if_t hc24] at H
    refine C_seq ?_
    refine C_region ?_
    refine W_assign rfl rfl ?_
    refine W_nil ?_
    refine N_code ?_
    obtain rfl := Option.some.inj H
    refine C_ret rfl rfl ?_
    exact ⟨F16, rfl, hS16.pick [] (by decide)⟩
   ·
    rw [if_f hc24] at H
    refine C_skip ?_
    refine N_code ?_
    refine C_seq ?_
    obtain ⟨r25, hr25, H⟩ := bd_some H
    refine C_region ?_
    refine W_move rfl rfl ?_
    refine W_call rfl Ty.named36 rfl (cellarerkeep_SpoilLocs_ok (hS16.lendRow 0 rfl) hr25) ?_
    rintro v26 w26 ⟨Fr25, rfl, hT26⟩
    have hS26 := hS16.backRow 0 [] rfl (by decide) (by decide) hT26
    have ler25 := hT26.ext
    refine W_nil ?_
    refine N_code ?_
    refine C_seq ?_
    refine C_region ?_
    refine W_assign rfl rfl ?_
    refine W_nil ?_
    refine N_code ?_
    refine C_seq_join (fun E wq => ∃ l28 : List Want, cellarerlaw21_PlanExact.k2 x0 x1 r7 l28 = some r ∧ ∃ (F27 : Frz) (u29 : Value), E = [(0, v0), (1, v1), (5, ur7_0), (8, u29)] ∧ Fr25.le F27 ∧ St [] w F F27 [.row Want.t 52 u29 l28] wq) ?_ ?_
    ·
     refine C_seq ?_
     refine C_region ?_
     refine W_assign rfl rfl ?_
     refine W_nil ?_
     refine N_code ?_
     refine C_block ?_
     refine C_loopM (fun (s : (List Want) × Int) E wq => ∃ (F101 : Frz) (u103 : Value), E = [(0, v0), (1, v1), (5, ur7_0), (8, u103), (9, .int .i64 s.2)] ∧ Fr25.le F101 ∧ St [] w F F101 [.row Want.t 52 u103 s.1] wq) H ?_ ?_
     ·
      have hS138 := hS26.nilRow Want.t 52
      exact ⟨_, ⟨Fr25, (.slice none 0 0), rfl, (Frz.le.refl _), hS138.pick [0] (by decide)⟩, ⟨rfl, rfl, rfl, rfl, rfl, trivial⟩⟩
     ·
      rintro rec106 ⟨l102, i105⟩ E w101 hI H
      try dsimp only at hI
      obtain ⟨F101, u103, rfl, le101, hS101⟩ := hI
      dsimp only [cellarerlaw21_PlanExact.l5] at H
      refine C_seq ?_
      refine C_seq ?_
      refine C_region ?_
      refine W_move rfl rfl ?_
      refine W_move rfl rfl ?_
      refine W_lenv rfl Go.Proofs.Try.underlying47 rfl h0.ln ?_
      refine W_lss rfl rfl rfl ?_
      refine W_nil ?_
      refine N_code ?_
      refine C_cond rfl (fun hc107 => ?_) (fun hc107 => ?_)
      ·
       rw [if_t hc107] at H
       refine C_skip ?_
       refine N_code ?_
       refine C_seq ?_
       refine C_block ?_
       obtain ⟨x108, hx108, H⟩ := bd_some H
       obtain ⟨r110, hr110, H⟩ := bd_some H
       obtain ⟨l114, hl114, H⟩ := bd_some H
       obtain ⟨hp116, hy116⟩ := ix_some hx108
       obtain ⟨cs116, hr116, he116⟩ := (h0.mono (((((((le2.trans ler7).trans le9).trans le11).trans ler10).trans le16).trans ler25).trans le101)).at_ hy116
       obtain ⟨ue109_0, rfl, hle109_0, hue109_0⟩ := hr116
       replace he116 : Elf _ _ 33 _ _ := he116
       apply C_draw 14 [[], [], [], [1, 2], [3], [4], [], [], [6, 7], [8], [9], [10], [5, 11], [12]] [.val (u103), .val (v0), .val (.int .i64 i105), .val (elp v0 (i105.toNat * 33)), .val (elp v0 ((i105.toNat * 33) + 0)), .val (.agg (idCells x108.id).toArray), .val (v0), .val (.int .i64 i105), .val (elp v0 (i105.toNat * 33)), .val (elp v0 ((i105.toNat * 33) + 32)), .val (ue109_0), .pred (fun v wr => ∃ Fr110, (∃ ur110_0 : Value, v = ur110_0 ∧ SlF Loc.t Fr110 ur110_0 r110) ∧ St [] w101 F101 Fr110 [] wr) stable_ex, .pred (fun v wr => ∃ Fy111, (∃ uy111_1 : Value, v = .agg (Want.cells (Want.mk x108.id r110) uy111_1).toArray ∧ SlF Loc.t Fy111 uy111_1 r110 ∧ (x108.id).length = 32) ∧ St [] w101 F101 Fy111 [] wr) stable_ex, .pred (fun v wr => ∃ Fy113, (∃ uy113_0 : Value, v = uy113_0 ∧ SlF Want.t Fy113 uy113_0 [(Want.mk x108.id r110)]) ∧ St [] w101 F101 Fy113 [] wr) stable_ex] Ty.mixed rfl rfl (by kernel_rfl) (by kernel_rfl) rfl
       ·
        refine ⟨?_, ?_, ?_, ?_, ?_, ?_, ?_, ?_, ?_, ?_, ?_, ?_, ?_, ?_, trivial⟩
        ·
         intro w117 vq117 hB117 hH117
         have hS117 := hS101.below hB117
         refine W_move rfl rfl ?_
         refine W_nil ?_
         exact N_step rfl rfl (Below.refl _ _)
        ·
         intro w118 vq118 hB118 hH118
         have hS118 := hS101.below hB118
         refine W_move rfl rfl ?_
         refine W_nil ?_
         exact N_step rfl rfl (Below.refl _ _)
        ·
         intro w119 vq119 hB119 hH119
         have hS119 := hS101.below hB119
         refine W_move rfl rfl ?_
         refine W_nil ?_
         exact N_step rfl rfl (Below.refl _ _)
        ·
         intro w120 vq120 hB120 hH120
         have hS120 := hS101.below hB120
         refine W_ix rfl Go.Proofs.Try.underlying47 Ty.cells52 Ty.info52 rfl rfl (he116.el hS120.agree) hp116 rfl ?_
         refine W_nil ?_
         exact N_step rfl rfl (Below.refl _ _)
        ·
         intro w121 vq121 hB121 hH121
         have hS121 := hS101.below hB121
         refine W_fld 0 rfl Ty.field52_0 rfl (he116.el hS121.agree) ?_
         refine W_nil ?_
         exact N_step rfl rfl (Below.refl _ _)
        ·
         intro w122 vq122 hB122 hH122
         have hS122 := hS101.below hB122
         refine W_ldg 0 ((idCells x108.id)) rfl Ty.agg50 Ty.size50 rfl (he116.el hS122.agree) (by omega) (fun q u h => sub_at (post := [ue109_0]) rfl h) ?_
         refine W_nil ?_
         exact N_step rfl rfl (Below.refl _ _)
        ·
         intro w123 vq123 hB123 hH123
         have hS123 := hS101.below hB123
         refine W_move rfl rfl ?_
         refine W_nil ?_
         exact N_step rfl rfl (Below.refl _ _)
        ·
         intro w124 vq124 hB124 hH124
         have hS124 := hS101.below hB124
         refine W_move rfl rfl ?_
         refine W_nil ?_
         exact N_step rfl rfl (Below.refl _ _)
        ·
         intro w125 vq125 hB125 hH125
         have hS125 := hS101.below hB125
         refine W_ix rfl Go.Proofs.Try.underlying47 Ty.cells52 Ty.info52 rfl rfl (he116.el hS125.agree) hp116 rfl ?_
         refine W_nil ?_
         exact N_step rfl rfl (Below.refl _ _)
        ·
         intro w126 vq126 hB126 hH126
         have hS126 := hS101.below hB126
         refine W_fld 32 rfl Ty.field52_1 rfl (he116.el hS126.agree) ?_
         refine W_nil ?_
         exact N_step rfl rfl (Below.refl _ _)
        ·
         intro w127 vq127 hB127 hH127
         have hS127 := hS101.below hB127
         refine W_ld1 32 rfl Ty.cell49 rfl (he116.el hS127.agree) (by omega) rfl ?_
         refine W_nil ?_
         exact N_step rfl rfl (Below.refl _ _)
        ·
         intro w128 vq128 hB128 hH128
         have hS128 := hS101.below hB128
         refine W_call rfl Ty.named33 rfl (cellarerkeep_TwinLocs_ok hS128.agree hue109_0 hr110) ?_
         rintro ur110_0 w129 ⟨Fr110, _, rfl, hT129⟩
         have hS129 := (St.from hS101.agree hB128).call hT129
         obtain ⟨F130, le130, hf130, hS130⟩ := hS129.freeze 0 [] rfl (by decide) (by decide)
         refine W_nil ?_
         exact N_step rfl ⟨F130, ⟨ur110_0, rfl, hf130⟩, hS130⟩ hT129.below0
        ·
         intro w131 vq131 hB131 hH131
         obtain ⟨_, ⟨Fr110, ⟨ur110_0, he131_11, hfr110_0⟩, hTcr110⟩, _⟩ := hH131
         have hS131 := hS101.call hTcr110
         have le131 := hTcr110.ext
         refine W_eqv (t := 84) rfl he131_11 ?_
         obtain ⟨ao132, m132, c132, hu132⟩ := hfr110_0.ln.form
         refine W_build (v := .agg (Want.cells (Want.mk x108.id r110) ur110_0).toArray) rfl rfl (fun _ => by rw [hu132]; kernel_rfl) ?_
         refine W_nil ?_
         exact N_step rfl ⟨Fr110, ⟨ur110_0, rfl, hfr110_0, hle109_0⟩, hTcr110⟩ (Below.refl _ _)
        ·
         intro w133 vq133 hB133 hH133
         obtain ⟨⟨Fy111, ⟨uy111_1, he133_12, hfy111_1, hly111_0⟩, hTcy111⟩, _⟩ := hH133
         have hS133 := hS101.call hTcy111
         have le133 := hTcy111.ext
         refine W_eqv (t := 85) rfl he133_12 ?_
         refine W_bs (t := Want.t) [(Want.cells (Want.mk x108.id r110) uy111_1)] [(Want.mk x108.id r110)] rfl Go.Proofs.Try.underlying47 Ty.cells52 rfl rfl Ty.zero52 rfl rfl ⟨⟨uy111_1, rfl, hly111_0, hfy111_1⟩, trivial⟩ rfl rfl (St.entry hS133.agree) ?_
         intro u112 w112 hT112
         have hS112 := hTcy111.call hT112
         obtain ⟨F112, le112, hf112, hS112⟩ := hS112.freeze 0 [] rfl (by decide) (by decide)
         refine W_nil ?_
         exact N_step rfl ⟨F112, ⟨u112, rfl, hf112⟩, hS112⟩ hT112.below0
       intro w134 vq134 hB134 hH134
       obtain ⟨_, _, _, _, _, _, _, _, _, _, _, ⟨Fr110, ⟨ur110_0, he134_11, hfr110_0⟩, hTcr110⟩, ⟨Fy111, ⟨uy111_1, he134_12, hfy111_1, hly111_0⟩, hTcy111⟩, ⟨Fy113, ⟨uy113_0, he134_13, hfy113_0⟩, hTcy113⟩, _⟩ := hH134
       obtain ⟨F135, la135, lb135, hm135⟩ := hTcr110.merge hTcy111
       replace hfr110_0 := hfr110_0.mono la135
       replace hfy111_1 := hfy111_1.mono lb135
       obtain ⟨F136, la136, lb136, hm136⟩ := hm135.merge hTcy113
       replace hfr110_0 := hfr110_0.mono la136
       replace hfy111_1 := hfy111_1.mono la136
       replace hfy113_0 := hfy113_0.mono lb136
       have hS134 := hS101.call hm136
       have le134 := hm136.ext
       refine W_eqv (t := 84) rfl he134_11 ?_
       refine W_eqv (t := 85) rfl he134_12 ?_
       refine W_eqv (t := 86) rfl he134_13 ?_
       refine W_appM 0 rfl Go.Proofs.Try.underlying47 Ty.row52 rfl rfl rfl rfl rfl hS134 rfl (hfy113_0.src hS134.agree) hl114 ?_
       intro v115 w115 hS115
       refine W_assign rfl rfl ?_
       refine W_nil ?_
       refine N_block ?_
       refine N_code ?_
       refine C_region ?_
       refine W_move rfl rfl ?_
       refine W_add rfl rfl rfl rfl ?_
       refine W_assign rfl rfl ?_
       refine W_nil ?_
       exact N_againM (l114, wr (i105 + 1)) _ H ⟨F136, v115, rfl, (le101.trans le134), hS115⟩ ⟨rfl, rfl, rfl, rfl, rfl, trivial⟩
      ·
       rw [if_f hc107] at H
       refine C_exit _ rfl ?_
       exact N_join _ ⟨l102, H, ⟨F101, u103, rfl, le101, hS101⟩⟩ ⟨rfl, rfl, rfl, rfl, trivial⟩
    ·
     rintro E w27 ⟨l28, H, F27, u29, rfl, le27, hS27⟩
     dsimp only [cellarerlaw21_PlanExact.k2] at H
     refine C_seq ?_
     obtain ⟨r31, hr31, H⟩ := bd_some H
     refine C_region ?_
     refine W_move rfl rfl ?_
     obtain ⟨F32, le32, hf32, hS32⟩ := hS27.freeze 0 [] rfl (by decide) (by decide)
     refine W_call rfl Ty.named27 rfl (plan_Order_ok hS32.agree hf32 hr31) ?_
     rintro v33 w33 ⟨Fr31, ur31_0, ur31_1, rfl, hT33⟩
     have hS33 := hS32.call hT33
     have ler31 := hT33.ext
     refine W_move rfl rfl ?_
     refine W_extract rfl rfl rfl ?_
     refine W_extract rfl rfl rfl ?_
     refine W_assign rfl rfl ?_
     refine W_assign rfl rfl ?_
     refine W_nil ?_
     refine N_code ?_
     refine C_seq ?_
     obtain ⟨r34, hr34, H⟩ := bd_some H
     refine C_region ?_
     refine W_move rfl rfl ?_
     refine W_call rfl Ty.named37 rfl (cellarerref20_Order_ok hS33.agree (h0.mono (((((((((le2.trans ler7).trans le9).trans le11).trans ler10).trans le16).trans ler25).trans le27).trans le32).trans ler31)) hr34) ?_
     rintro v35 w35 ⟨Fr34, ur34_0, ur34_1, rfl, hT35⟩
     have hS35 := hS33.call hT35
     have ler34 := hT35.ext
     refine W_move rfl rfl ?_
     refine W_extract rfl rfl rfl ?_
     refine W_extract rfl rfl rfl ?_
     refine W_assign rfl rfl ?_
     refine W_assign rfl rfl ?_
     refine W_nil ?_
     refine N_code ?_
     refine C_seq ?_
     refine C_seq ?_
     obtain ⟨F36, le36, hf36, hS36⟩ := hS35.freeze 0 [1, 2, 3] rfl (by decide) (by decide)
     obtain ⟨F37, le37, hf37, hS37⟩ := hS36.freeze 1 [0, 2] rfl (by decide) (by decide)
     obtain ⟨r38, hr38, H⟩ := bd_some H
     obtain ⟨r39, hr39, H⟩ := bd_some H
     obtain ⟨r40, hr40, H⟩ := bd_some H
     obtain ⟨r41, hr41, H⟩ := bd_some H
     obtain ⟨r42, hr42, H⟩ := bd_some H
     obtain ⟨r43, hr43, H⟩ := bd_some H
     refine C_join (fun E wq => E = [(0, v0), (8, u29), (121, .bool ((((!r38) || (!r39)) || (!r42)) || (!r43)))] ∧ ∃ F44 : Frz, F37.le F44 ∧ St [] w F F44 [.row tI 3 ur34_1 r34.2, .row tI 3 ur31_1 r31.2] wq) ?_ ?_
     ·
      rcases Bool.eq_false_or_eq_true (!r38) with hb45 | hb45
      ·
       refine C_region ?_
       refine W_move rfl rfl ?_
       refine W_move rfl rfl ?_
       refine W_call rfl Ty.named21 rfl (cellarerkeep_Reads_ok hS37.agree hf37 (hf36.mono le37) hr38) ?_
       rintro v46 w46 ⟨Fr38, rfl, hT46⟩
       have hS46 := hS37.lent hT46
       refine W_not rfl rfl ?_
       refine W_move rfl rfl ?_
       refine W_known (t := 102) true rfl hb45 ?_
       refine W_guard_no rfl rfl rfl rfl rfl ?_
       refine W_guard_no rfl rfl rfl rfl rfl ?_
       refine W_guard_no rfl rfl rfl rfl rfl ?_
       refine W_guard_no rfl rfl rfl rfl rfl ?_
       refine W_pick_t rfl rfl rfl ?_
       refine W_move rfl rfl ?_
       refine W_guard_no rfl rfl rfl rfl rfl ?_
       refine W_guard_no rfl rfl rfl rfl rfl ?_
       refine W_guard_no rfl rfl rfl rfl rfl ?_
       refine W_guard_no rfl rfl rfl rfl rfl ?_
       refine W_guard_no rfl rfl rfl rfl rfl ?_
       refine W_guard_no rfl rfl rfl rfl rfl ?_
       refine W_pick_t rfl rfl rfl ?_
       refine W_move rfl rfl ?_
       refine W_guard_no rfl rfl rfl rfl rfl ?_
       refine W_guard_no rfl rfl rfl rfl rfl ?_
       refine W_guard_no rfl rfl rfl rfl rfl ?_
       refine W_guard_no rfl rfl rfl rfl rfl ?_
       refine W_pick_t rfl rfl rfl ?_
       refine W_nil ?_
       exact N_join _ ⟨rfl, F37, (Frz.le.refl _), hS46⟩ ⟨rfl, rfl, (look_bool rfl (by first | rfl | (rw [hb45]; first | done | rfl) | simp [hb45])), trivial⟩
      ·
       rcases Bool.eq_false_or_eq_true (!r39) with hb47 | hb47
       ·
        refine C_region ?_
        refine W_move rfl rfl ?_
        refine W_move rfl rfl ?_
        refine W_call rfl Ty.named21 rfl (cellarerkeep_Reads_ok hS37.agree hf37 (hf36.mono le37) hr38) ?_
        rintro v48 w48 ⟨Fr38, rfl, hT48⟩
        have hS48 := hS37.lent hT48
        refine W_not rfl rfl ?_
        refine W_move rfl rfl ?_
        refine W_known (t := 102) false rfl hb45 ?_
        refine W_guard_yes rfl ?_
        refine W_move rfl rfl ?_
        refine W_guard_yes rfl ?_
        refine W_move rfl rfl ?_
        refine W_guard_yes rfl ?_
        have hy49 := hr39
        rw [only_t (by first | rfl | (rw [hb45]; first | done | rfl) | simp [hb45, hb47])] at hy49
        refine W_call rfl Ty.named20 rfl (cellarerkeep_Ints_ok (now_agree _) (hS48.rowNow (k := 1) rfl) (hS48.rowNow (k := 0) rfl) hy49) ?_
        rintro v50 w50 ⟨Fr39, rfl, hT50⟩
        have hS50 := hS48.lent hT50
        refine W_guard_yes rfl ?_
        refine W_not rfl rfl ?_
        refine W_pick_f rfl rfl rfl ?_
        refine W_move rfl rfl ?_
        refine W_known (t := 108) true rfl hb47 ?_
        refine W_guard_no rfl rfl rfl rfl rfl ?_
        refine W_guard_no rfl rfl rfl rfl rfl ?_
        refine W_guard_no rfl rfl rfl rfl rfl ?_
        refine W_guard_no rfl rfl rfl rfl rfl ?_
        refine W_guard_no rfl rfl rfl rfl rfl ?_
        refine W_guard_no rfl rfl rfl rfl rfl ?_
        refine W_pick_t rfl rfl rfl ?_
        refine W_move rfl rfl ?_
        refine W_guard_no rfl rfl rfl rfl rfl ?_
        refine W_guard_no rfl rfl rfl rfl rfl ?_
        refine W_guard_no rfl rfl rfl rfl rfl ?_
        refine W_guard_no rfl rfl rfl rfl rfl ?_
        refine W_pick_t rfl rfl rfl ?_
        refine W_nil ?_
        exact N_join _ ⟨rfl, F37, (Frz.le.refl _), hS50⟩ ⟨rfl, rfl, (look_bool rfl (by first | rfl | (rw [hb45, hb47]; first | done | rfl) | simp [hb45, hb47])), trivial⟩
       ·
        rcases Bool.eq_false_or_eq_true (!r42) with hb51 | hb51
        ·
         refine C_region ?_
         refine W_move rfl rfl ?_
         refine W_move rfl rfl ?_
         refine W_call rfl Ty.named21 rfl (cellarerkeep_Reads_ok hS37.agree hf37 (hf36.mono le37) hr38) ?_
         rintro v52 w52 ⟨Fr38, rfl, hT52⟩
         have hS52 := hS37.lent hT52
         refine W_not rfl rfl ?_
         refine W_move rfl rfl ?_
         refine W_known (t := 102) false rfl hb45 ?_
         refine W_guard_yes rfl ?_
         refine W_move rfl rfl ?_
         refine W_guard_yes rfl ?_
         refine W_move rfl rfl ?_
         refine W_guard_yes rfl ?_
         have hy53 := hr39
         rw [only_t (by first | rfl | (rw [hb45]; first | done | rfl) | simp [hb45, hb47, hb51])] at hy53
         refine W_call rfl Ty.named20 rfl (cellarerkeep_Ints_ok (now_agree _) (hS52.rowNow (k := 1) rfl) (hS52.rowNow (k := 0) rfl) hy53) ?_
         rintro v54 w54 ⟨Fr39, rfl, hT54⟩
         have hS54 := hS52.lent hT54
         refine W_guard_yes rfl ?_
         refine W_not rfl rfl ?_
         refine W_pick_f rfl rfl rfl ?_
         refine W_move rfl rfl ?_
         refine W_known (t := 108) false rfl hb47 ?_
         refine W_guard_yes rfl ?_
         refine W_move rfl rfl ?_
         refine W_guard_yes rfl ?_
         have hy55 := hr40
         rw [only_t (by first | rfl | (rw [hb45, hb47]; first | done | rfl) | simp [hb45, hb47, hb51])] at hy55
         refine W_call rfl Ty.named32 rfl (plan_Vols_ok hS54.agree hf37 hy55) ?_
         rintro ur40_0 w56 ⟨Fr40, _, rfl, hT56⟩
         have hS56 := hS54.call hT56
         have ler40 := hT56.ext
         refine W_guard_yes rfl ?_
         refine W_move rfl rfl ?_
         refine W_guard_yes rfl ?_
         have hy57 := hr41
         rw [only_t (by first | rfl | (rw [hb45, hb47]; first | done | rfl) | simp [hb45, hb47, hb51])] at hy57
         refine W_call rfl Ty.named18 rfl (cellarerref20_Vols_ok hS56.agree (hf36.mono (le37.trans ler40)) hy57) ?_
         rintro ur41_0 w58 ⟨Fr41, _, rfl, hT58⟩
         have hS58 := hS56.call hT58
         have ler41 := hT58.ext
         refine W_guard_yes rfl ?_
         have hy59 := hr42
         rw [only_t (by first | rfl | (rw [hb45, hb47]; first | done | rfl) | simp [hb45, hb47, hb51])] at hy59
         refine W_call rfl Ty.named20 rfl (cellarerkeep_Ints_ok (now_agree _) (hS58.rowNow (k := 1) rfl) (hS58.rowNow (k := 0) rfl) hy59) ?_
         rintro v60 w60 ⟨Fr42, rfl, hT60⟩
         have hS60 := hS58.lent hT60
         refine W_guard_yes rfl ?_
         refine W_not rfl rfl ?_
         refine W_pick_f rfl rfl rfl ?_
         refine W_move rfl rfl ?_
         refine W_known (t := 116) true rfl hb51 ?_
         refine W_guard_no rfl rfl rfl rfl rfl ?_
         refine W_guard_no rfl rfl rfl rfl rfl ?_
         refine W_guard_no rfl rfl rfl rfl rfl ?_
         refine W_guard_no rfl rfl rfl rfl rfl ?_
         refine W_pick_t rfl rfl rfl ?_
         refine W_nil ?_
         exact N_join _ ⟨rfl, Fr41, (ler40.trans ler41), hS60.pick [2, 3] (by decide)⟩ ⟨rfl, rfl, (look_bool rfl (by first | rfl | (rw [hb45, hb47, hb51]; first | done | rfl) | simp [hb45, hb47, hb51])), trivial⟩
        ·
         refine C_region ?_
         refine W_move rfl rfl ?_
         refine W_move rfl rfl ?_
         refine W_call rfl Ty.named21 rfl (cellarerkeep_Reads_ok hS37.agree hf37 (hf36.mono le37) hr38) ?_
         rintro v61 w61 ⟨Fr38, rfl, hT61⟩
         have hS61 := hS37.lent hT61
         refine W_not rfl rfl ?_
         refine W_move rfl rfl ?_
         refine W_known (t := 102) false rfl hb45 ?_
         refine W_guard_yes rfl ?_
         refine W_move rfl rfl ?_
         refine W_guard_yes rfl ?_
         refine W_move rfl rfl ?_
         refine W_guard_yes rfl ?_
         have hy62 := hr39
         rw [only_t (by first | rfl | (rw [hb45]; first | done | rfl) | simp [hb45, hb47, hb51])] at hy62
         refine W_call rfl Ty.named20 rfl (cellarerkeep_Ints_ok (now_agree _) (hS61.rowNow (k := 1) rfl) (hS61.rowNow (k := 0) rfl) hy62) ?_
         rintro v63 w63 ⟨Fr39, rfl, hT63⟩
         have hS63 := hS61.lent hT63
         refine W_guard_yes rfl ?_
         refine W_not rfl rfl ?_
         refine W_pick_f rfl rfl rfl ?_
         refine W_move rfl rfl ?_
         refine W_known (t := 108) false rfl hb47 ?_
         refine W_guard_yes rfl ?_
         refine W_move rfl rfl ?_
         refine W_guard_yes rfl ?_
         have hy64 := hr40
         rw [only_t (by first | rfl | (rw [hb45, hb47]; first | done | rfl) | simp [hb45, hb47, hb51])] at hy64
         refine W_call rfl Ty.named32 rfl (plan_Vols_ok hS63.agree hf37 hy64) ?_
         rintro ur40_0 w65 ⟨Fr40, _, rfl, hT65⟩
         have hS65 := hS63.call hT65
         have ler40 := hT65.ext
         refine W_guard_yes rfl ?_
         refine W_move rfl rfl ?_
         refine W_guard_yes rfl ?_
         have hy66 := hr41
         rw [only_t (by first | rfl | (rw [hb45, hb47]; first | done | rfl) | simp [hb45, hb47, hb51])] at hy66
         refine W_call rfl Ty.named18 rfl (cellarerref20_Vols_ok hS65.agree (hf36.mono (le37.trans ler40)) hy66) ?_
         rintro ur41_0 w67 ⟨Fr41, _, rfl, hT67⟩
         have hS67 := hS65.call hT67
         have ler41 := hT67.ext
         refine W_guard_yes rfl ?_
         have hy68 := hr42
         rw [only_t (by first | rfl | (rw [hb45, hb47]; first | done | rfl) | simp [hb45, hb47, hb51])] at hy68
         refine W_call rfl Ty.named20 rfl (cellarerkeep_Ints_ok (now_agree _) (hS67.rowNow (k := 1) rfl) (hS67.rowNow (k := 0) rfl) hy68) ?_
         rintro v69 w69 ⟨Fr42, rfl, hT69⟩
         have hS69 := hS67.lent hT69
         refine W_guard_yes rfl ?_
         refine W_not rfl rfl ?_
         refine W_pick_f rfl rfl rfl ?_
         refine W_move rfl rfl ?_
         refine W_known (t := 116) false rfl hb51 ?_
         refine W_guard_yes rfl ?_
         refine W_move rfl rfl ?_
         refine W_guard_yes rfl ?_
         refine W_move rfl rfl ?_
         refine W_guard_yes rfl ?_
         have hy70 := hr43
         rw [only_t (by first | rfl | (rw [hb45, hb47, hb51]; first | done | rfl) | simp [hb45, hb47, hb51])] at hy70
         refine W_call rfl Ty.named28 rfl (cellarerkeep_Locs_ok hS69.agree (hf11.mono ((((((((((ler10.trans le16).trans ler25).trans le27).trans le32).trans ler31).trans ler34).trans le36).trans le37).trans ler40).trans ler41)) (h1.mono ((((((((((((((le2.trans ler7).trans le9).trans le11).trans ler10).trans le16).trans ler25).trans le27).trans le32).trans ler31).trans ler34).trans le36).trans le37).trans ler40).trans ler41)) hy70) ?_
         rintro v71 w71 ⟨Fr43, rfl, hT71⟩
         have hS71 := hS69.lent hT71
         refine W_guard_yes rfl ?_
         refine W_not rfl rfl ?_
         refine W_pick_f rfl rfl rfl ?_
         refine W_nil ?_
         exact N_join _ ⟨rfl, Fr41, (ler40.trans ler41), hS71.pick [2, 3] (by decide)⟩ ⟨rfl, rfl, (look_bool rfl (by first | rfl | (rw [hb45, hb47, hb51]; first | done | rfl) | simp [hb45, hb47, hb51])), trivial⟩
     rintro E w44 ⟨rfl, F44, le44, hS44⟩
     refine N_code ?_
     refine C_cond rfl (fun hc72 => ?_) (fun hc72 => ?_)
     ·
      rw [if_t hc72] at H
      refine C_seq ?_
      refine C_region ?_
      refine W_assign rfl rfl ?_
      refine W_nil ?_
      refine N_code ?_
      obtain rfl := Option.some.inj H
      refine C_ret rfl rfl ?_
      exact ⟨F44, rfl, hS44.pick [] (by decide)⟩
     ·
      rw [if_f hc72] at H
      refine C_skip ?_
      refine N_code ?_
      refine C_seq_join (fun E wq => cellarerlaw21_PlanExact.k3 = some r ∧ ∃ (F73 : Frz), E = [] ∧ F44.le F73 ∧ St [] w F F73 [] wq) ?_ ?_
      ·
       refine C_seq ?_
       refine C_region ?_
       refine W_assign rfl rfl ?_
       refine W_nil ?_
       refine N_code ?_
       refine C_block ?_
       refine C_loopM (fun (s : Int) E wq => ∃ (F76 : Frz), E = [(0, v0), (8, u29), (14, .int .i64 s)] ∧ F44.le F76 ∧ St [] w F F76 [] wq) H ?_ ?_
       ·
        exact ⟨_, ⟨F44, rfl, (Frz.le.refl _), hS44.pick [] (by decide)⟩, ⟨rfl, rfl, rfl, trivial⟩⟩
       ·
        rintro rec78 i77 E w76 hI H
        try dsimp only at hI
        obtain ⟨F76, rfl, le76, hS76⟩ := hI
        dsimp only [cellarerlaw21_PlanExact.l4] at H
        refine C_seq ?_
        refine C_seq ?_
        refine C_region ?_
        refine W_move rfl rfl ?_
        refine W_move rfl rfl ?_
        refine W_lenv rfl Go.Proofs.Try.underlying47 rfl h0.ln ?_
        refine W_lss rfl rfl rfl ?_
        refine W_nil ?_
        refine N_code ?_
        refine C_cond rfl (fun hc79 => ?_) (fun hc79 => ?_)
        ·
         rw [if_t hc79] at H
         refine C_skip ?_
         refine N_code ?_
         refine C_seq ?_
         refine C_block ?_
         refine C_seq ?_
         obtain ⟨x80, hx80, H⟩ := bd_some H
         obtain ⟨x82, hx82, H⟩ := bd_some H
         obtain ⟨r84, hr84, H⟩ := bd_some H
         obtain ⟨hp85, hy85⟩ := ix_some hx80
         obtain ⟨cs85, hr85, he85⟩ := (hf32.mono (((((ler31.trans ler34).trans le36).trans le37).trans le44).trans le76)).at_ hy85
         obtain ⟨ue81_0, rfl, hle81_0, hue81_0⟩ := hr85
         replace he85 : Elf _ _ 33 _ _ := he85
         obtain ⟨hp86, hy86⟩ := ix_some hx82
         obtain ⟨cs86, hr86, he86⟩ := (h0.mono ((((((((((((((le2.trans ler7).trans le9).trans le11).trans ler10).trans le16).trans ler25).trans le27).trans le32).trans ler31).trans ler34).trans le36).trans le37).trans le44).trans le76)).at_ hy86
         obtain ⟨ue83_0, rfl, hle83_0, hue83_0⟩ := hr86
         replace he86 : Elf _ _ 33 _ _ := he86
         apply C_draw 11 [[], [], [0, 1], [2], [3], [], [], [5, 6], [7], [8], [4, 9]] [.val (u29), .val (.int .i64 i77), .val (elp u29 (i77.toNat * 33)), .val (elp u29 ((i77.toNat * 33) + 32)), .val (ue81_0), .val (v0), .val (.int .i64 i77), .val (elp v0 (i77.toNat * 33)), .val (elp v0 ((i77.toNat * 33) + 32)), .val (ue83_0), .val (.bool r84)] Ty.mixed rfl rfl (by kernel_rfl) (by kernel_rfl) rfl
         ·
          refine ⟨?_, ?_, ?_, ?_, ?_, ?_, ?_, ?_, ?_, ?_, ?_, trivial⟩
          ·
           intro w87 vq87 hB87 hH87
           have hS87 := hS76.below hB87
           refine W_move rfl rfl ?_
           refine W_nil ?_
           exact N_step rfl rfl (Below.refl _ _)
          ·
           intro w88 vq88 hB88 hH88
           have hS88 := hS76.below hB88
           refine W_move rfl rfl ?_
           refine W_nil ?_
           exact N_step rfl rfl (Below.refl _ _)
          ·
           intro w89 vq89 hB89 hH89
           have hS89 := hS76.below hB89
           refine W_ix rfl Go.Proofs.Try.underlying47 Ty.cells52 Ty.info52 rfl rfl (he85.el hS89.agree) hp85 rfl ?_
           refine W_nil ?_
           exact N_step rfl rfl (Below.refl _ _)
          ·
           intro w90 vq90 hB90 hH90
           have hS90 := hS76.below hB90
           refine W_fld 32 rfl Ty.field52_1 rfl (he85.el hS90.agree) ?_
           refine W_nil ?_
           exact N_step rfl rfl (Below.refl _ _)
          ·
           intro w91 vq91 hB91 hH91
           have hS91 := hS76.below hB91
           refine W_ld1 32 rfl Ty.cell49 rfl (he85.el hS91.agree) (by omega) rfl ?_
           refine W_nil ?_
           exact N_step rfl rfl (Below.refl _ _)
          ·
           intro w92 vq92 hB92 hH92
           have hS92 := hS76.below hB92
           refine W_move rfl rfl ?_
           refine W_nil ?_
           exact N_step rfl rfl (Below.refl _ _)
          ·
           intro w93 vq93 hB93 hH93
           have hS93 := hS76.below hB93
           refine W_move rfl rfl ?_
           refine W_nil ?_
           exact N_step rfl rfl (Below.refl _ _)
          ·
           intro w94 vq94 hB94 hH94
           have hS94 := hS76.below hB94
           refine W_ix rfl Go.Proofs.Try.underlying47 Ty.cells52 Ty.info52 rfl rfl (he86.el hS94.agree) hp86 rfl ?_
           refine W_nil ?_
           exact N_step rfl rfl (Below.refl _ _)
          ·
           intro w95 vq95 hB95 hH95
           have hS95 := hS76.below hB95
           refine W_fld 32 rfl Ty.field52_1 rfl (he86.el hS95.agree) ?_
           refine W_nil ?_
           exact N_step rfl rfl (Below.refl _ _)
          ·
           intro w96 vq96 hB96 hH96
           have hS96 := hS76.below hB96
           refine W_ld1 32 rfl Ty.cell49 rfl (he86.el hS96.agree) (by omega) rfl ?_
           refine W_nil ?_
           exact N_step rfl rfl (Below.refl _ _)
          ·
           intro w97 vq97 hB97 hH97
           have hS97 := hS76.below hB97
           refine W_call rfl Ty.named28 rfl (cellarerkeep_Locs_ok hS97.agree hue81_0 hue83_0 hr84) ?_
           rintro v98 w98 ⟨Fr84, rfl, hT98⟩
           have hS98 := hS97.lent hT98
           refine W_nil ?_
           exact N_step rfl rfl hT98.below0
         intro w99 vq99 hB99 hH99
         have hS99 := hS76.below hB99
         refine W_not rfl rfl ?_
         refine W_nil ?_
         refine N_code ?_
         refine C_cond rfl (fun hc100 => ?_) (fun hc100 => ?_)
         ·
          rw [if_t hc100] at H
          refine C_seq ?_
          refine C_region ?_
          refine W_assign rfl rfl ?_
          refine W_nil ?_
          refine N_code ?_
          obtain rfl := Option.some.inj H
          refine C_ret rfl rfl ?_
          exact ⟨F76, rfl, hS99⟩
         ·
          rw [if_f hc100] at H
          refine C_skip ?_
          refine N_block ?_
          refine N_code ?_
          refine C_region ?_
          refine W_move rfl rfl ?_
          refine W_add rfl rfl rfl rfl ?_
          refine W_assign rfl rfl ?_
          refine W_nil ?_
          exact N_againM (wr (i77 + 1)) _ H ⟨F76, rfl, le76, hS99⟩ ⟨rfl, rfl, rfl, trivial⟩
        ·
         rw [if_f hc79] at H
         refine C_exit _ rfl ?_
         exact N_join _ ⟨H, ⟨F76, rfl, le76, hS76⟩⟩ trivial
      ·
       rintro E w73 ⟨H, F73, rfl, le73, hS73⟩
       dsimp only [cellarerlaw21_PlanExact.k3] at H
       refine C_seq ?_
       obtain ⟨r74, hr74, H⟩ := bd_some H
       refine C_region ?_
       refine W_call rfl Ty.named30 rfl (cellarerlaw21_wakes_ok hS73.agree hr74) ?_
       rintro v75 w75 ⟨Fr74, rfl, hT75⟩
       have hS75 := hS73.lent hT75
       refine W_assign rfl rfl ?_
       refine W_nil ?_
       refine N_code ?_
       obtain rfl := Option.some.inj H
       refine C_ret rfl rfl ?_
       exact ⟨F73, rfl, hS75⟩

end Go.Wk.Lf
